import Derived.Test.YtljbhgpanekomaaGreatPiFunc
import Derived.Test.YtljbhgpanekomaaGreatPiLaw
import Derived.Shelf.SlSortCmp.NoneTotal
import Derived.Sort.OwnSortedInts
import Derived.Test.YtljbhgpanekomaaGreatPiCePlain
import Derived.WalkKit
import Derived.StillTailTactics
import Derived.Deep.RegionWith
import Derived.Test.YtljbhgpanekomaaGreatPiBase
set_option maxHeartbeats 1000000
set_option linter.unusedSimpArgs false
set_option linter.unusedVariables false
set_option linter.unusedSectionVars false
namespace PI
open Go Go.RowKit Go.Shelf Go.Proofs Go.Sort
section
variable{N:Nm}{P:Program}{ρ:Ren}
theorem Z3:∀{cs:List PV}{c:List (Int×Int)},IX cs=some c->cs=c.flatMap Cv|[],c,h=>by simp[IX]at h;subst h;rfl|[e],c,h=>by unfold IX at h;split at h<;>simp_all|e::g::es,c,h=>by unfold IX at h;split at h;{rename_i d;simp at d};{rename_i a b r d;simp only[dY]at d;obtain⟨rfl,rfl,rfl⟩:=d;simp only[ab]at h;obtain⟨i,f,rfl⟩:=h;rw[Z3 f];rfl};simp at h
def Fh(x:Int×Int):List Value:=[.int .i64 x.1,.int .i64 x.2]
def EU(a:List (Int×Int)):List Value:=a.flatMap Fh
theorem KT:∀a:List (Int×Int),(EU a).length=a.length*2|[]=>rfl|z::a=>by simp only[EU,bj,ao,be];have:=KT a;unfold EU at this;rw[this];simp[Fh];omega
theorem JV:∀a:List (Int×Int),(a.flatMap Cv).length=a.length*2|[]=>rfl|z::a=>by simp only[bj,ao,be,JV a];simp[Cv];omega
theorem Z4:∀(a:List (Int×Int))(t:Nat)(h:t<a.length*2),(EU a)[t]?=some ((Fh (a.toArray[t/2]!))[t%2]!)|[],t,h=>by simp at h|z::a,0,h=>by simp[EU,Fh]|z::a,1,h=>by simp[EU,Fh]|z::a,t+2,h=>by have:=Z4 a t (by simp at h;omega);simp only[EU,bj,Fh,bl,de,fe]at this⊢;rw[this];(have b:(t+2)/2=t/2+1:=by omega);(have e2:(t+2)%2=t%2:=by omega);rw[b,e2];simp
theorem Z5(a:List (Int×Int)):flatK Fh 2 a.toArray=(EU a).toArray:=by apply Array.ext';apply ec;intro t;by_cases h:t<a.length*2;{rw[List.toList_toArray,Z4 a t h];have b:=get_flatK Fh 2 a.toArray t (by simpa using h);rw[getElem!_pos _ t (by simpa using h)]at b;rw[eI,fp (by simpa using h),b]};rw[fc (by simp;omega),fc (by simp[KT];omega)]
theorem Z6{a:List (Int×Int)}:∀{j:Nat}{x:PV},(a.flatMap Cv)[j]?=some x->∃z,x=.int .i64 z/\(EU a)[j]?=some (.int .i64 z):=by induction a with|nil=>intro j x h;simp at h|cons z a b=>intro j x h;match j with|0=>simp[Cv]at h;exact⟨_,h.symm,by simp[EU,Fh]⟩|1=>simp[Cv]at h;exact⟨_,h.symm,by simp[EU,Fh]⟩|j+2=>simp only[bj,Cv,bl,de,fe]at h;obtain⟨c,d,h2⟩:=b h;exact⟨c,d,by simpa[EU,Fh]using h2⟩
theorem c5E{w:World}{g:Nat}{cur:Array Value}{e:TypeId}{ss:List Value}(hb:w.heap[g]?=some (.cells cur e (0,0)))(c:cur.toList.take ss.length=ss):Holds (id:Value->Value) w g 0 ss.toArray:=by intro j d;(have b:j<ss.length:=by simpa using d);refine⟨?_,by simp[World.frozen?,hb]⟩;(have a:(cur.toList.take ss.length)[j]?=ss[j]?:=by rw[c]);rw[eO b]at a;simp only[World.cell?,hb,bu];simp only[Option.isSome_none,bk,if_false];rw[<-eI,a];simp[b]
theorem c7S{w:World}{g n:Nat}{os:Array Obj}{cur:Array Value}{e:TypeId}{fr:Nat×Nat}(d:Array Value)(hb:w.heap[g]?=some (.cells cur e fr)):(grow (putRow id (Sort.ahead w n) g 0 d) os).heap[g]?=some (.cells (putCells id 0 d cur) e fr):=by have a:g<w.heap.size:=(cz.1 hb).1;rw[heap_grow_old _ _ (by simpa using a)];simp[putRow,mapBlock,Sort.ahead,Array.getElem?_modify,hb,onCells]
theorem c1b{w:World}{g n:Nat}{os:Array Obj}(d:Array Value):w.grownBy (grow (putRow id (Sort.ahead w n) g 0 d) os) (some g):=by refine⟨rfl,rfl,rfl,by simp,λk a b=>?_⟩;rw[heap_grow_old _ _ (by simpa using a)];have:g≠k:=λe=>b (by rw[e]);simp[putRow,mapBlock,Sort.ahead,Array.getElem?_modify,this]
def Im(x y:Int×Int):Int:=if x.1<y.1 then-1 else if y.1<x.1 then 1 else if x.2<y.2 then-1 else if y.2<x.2 then 1 else 0
theorem MQ(x y:Int×Int):ltOf Im x y=decide (x.1<y.1\/x.1=y.1/\x.2<y.2):=by unfold ltOf Im;by_cases h1:x.1<y.1;{simp[h1]};by_cases h2:y.1<x.1;{simp[h1,h2];omega};by_cases h3:x.2<y.2;{simp[h1,h2,h3];omega};by_cases h4:y.2<x.2;{simp[h1,h2,h3,h4]};simp[h1,h2,h3,h4]
theorem c2U:SWO (ltOf Im)where
 irrefl x:=by rw[MQ];simp
 trans x y z h1 h2:=by rw[MQ]at*;simp at*;omega
 ntrans x y z h1 h2:=by rw[MQ]at*;simp at*;omega
theorem c5F:(λx y:Int×Int=>!(ltOf Im) y x)=Dr:=by funext x y;rw[MQ,Dr,<-decide_not];refine decide_eq_decide.2 ?_;omega
theorem c9Q{k K:Nat}(hk:N.fn k=ρ.f 6)(L:SlLaysF0.n6 P ρ)(aE:∀w,(isAgg (ρ.t 24)).run P w=.ok true w)(zE:∀w,(Go.sizeOf (ρ.t 24)).run P w=.ok 2 w)(eg:∀args w,(callFunc (N.fn K) args).run P w=.ok (.enter (N.fn K) args) w)(fL:∀(x y:Int×Int)(W:World),Calls P (N.fn K) #[.agg (Fh x).toArray,.agg (Fh y).toArray] W λe F=>e=.returned (.int .i64 (Im x y))/\∃q Y,F=grow (W.drewN q) Y):IP N P k (IQ K):=by intro args r h h' B w G H D fH S;unfold IQ at B;split at B;{rename_i n len kf;split at B;{rename_i M gT;split at B;{rename_i I;obtain⟨rfl,I⟩:=I;simp only[ab,ae]at B;obtain⟨C,lW,rfl,rfl⟩:=B;rw[c5C];have hz:=Z3 lW;(have V:C.length=len:=by have:=bx List.length hz;rw[JV]at this;simp at this;omega);obtain⟨l⟩:=H;match l,fH with|[v,v2],_=>have hv:=S 0 v _ rfl rfl;have kw:=S 1 v2 _ rfl rfl;(obtain rfl:v2=.func (.func (N.fn kf)) #[] #[]:=by cases kw with|func _ fs M _ _ _ e1 e2=>have:fs=#[]:=Array.eq_empty_of_size_eq_zero (by simpa using e1);subst this;have:M=#[]:=Array.eq_empty_of_size_eq_zero (by simpa using e2);subst this;rfl);cases hv with|rowp _ _ _ _ b cap hb fJ gM=>rcases D.heap.1 n _ gT with d|⟨u,k1,k2,f,A,T,J,a2,a3⟩;{simp at d};(have:u=b:=by rw[hb]at k1;simpa using k1.symm);subst this;have jS:u<w.heap.size:=(cz.1 J).1;(have oU:A.toList.take (EU C).length=EU C:=by rw[KT];apply ec;intro j;by_cases hj:j<C.length*2;{rw[eO hj,eI];(have sd:j<A.size:=by omega);(have R:M[j]?=(C.flatMap Cv)[j]?:=by have:=bx (λl:List PV=>l[j]?) hz;rw[eO (by omega)]at this;exact this);obtain⟨x,d⟩:∃x,(C.flatMap Cv)[j]?=some x:=⟨_,al (by rw[JV];exact hj)⟩;obtain⟨z,rfl,h2⟩:=Z6 d;have h4:=(a3 j A[j] _ (by simp[sd]) (R.trans d)).1;(have h3:A[j]?=some A[j]:=by simp[sd]);generalize t:A[j]=c4 at h4 h3;cases h4;rw[h3,h2]};rw[List.getElem?_take_eq_none (by omega),fc (by rw[KT];omega)]);(have hH:HoldsK Fh 2 w u 0 C.toArray:=by unfold HoldsK;rw[Z5];exact c5E J oU);have t:=AnyQ.slices_SortFunc_total L 2 aE zE Fh (λ_=>rfl) (λx v hv=>by simp[Fh]at hv;rcases hv with rfl|rfl<;>rfl) Im c2U (N.fn kf) #[] u 0 cap C.toArray w eg (λm os dk hs x y=>fL x y _) hH jS (by simpa[V]using I.2) (λx y R h2=>by rw[MQ]at R h2;simp at R h2;exact Prod.ext (by omega) (by omega));rw[c5F]at t;simp only[fj,V]at t;refine(hk▸t).mono ?_;rintro e F⟨rfl,m,os,rfl⟩;obtain⟨ts,iQ⟩:∃ts,ts=C.mergeSort Dr:=⟨_,rfl⟩;(have mV:ts.length=len:=by rw[<-V,iQ];exact List.length_mergeSort _);rw[<-iQ];show∃v G',_/\_/\_/\_;have uh:=c1b (w:=w) (g:=u) (n:=m) (os:=os) (EU ts).toArray;have qq:=c7S (n:=m) (os:=os) (EU ts).toArray J;(have A8:sortWorldK Fh 2 w u 0 m ts.toArray os=grow (putRow id (Sort.ahead w m) u 0 (EU ts).toArray) os:=by unfold sortWorldK putRowK;rw[Z5]);rw[A8];generalize lf:grow (putRow id (Sort.ahead w m) u 0 (EU ts).toArray) os=F at uh qq;obtain⟨g1,g2,g3,g4,g5⟩:=uh;have O:∀x,x<w.heap.size->x≠u->F.heap[x]?=w.heap[x]?:=λx d E=>g5 x d (by simpa using E);(have U:(putCells id 0 (EU ts).toArray A).size=A.size:=by simp[putCells]);have mQ:ShapeLe w F:=.one u (λx d E=>O x d E) (λs hs=>by simp only[World.shape?,J]at hs;simp only[World.shape?,qq,U];exact hs) (λs hs=>by rw[Uj J]at hs;simp at hs);(have ft:Ext w G F G:=by refine⟨g1,g2,g3,g4,?_,?_,λ_ _ h=>.inl h,λ_ h=>.inr h,λ_ _ h=>h,mQ,rfl⟩;{intro x d ho;exact O x d (by rintro rfl;rw[k2]at ho;simp at ho)};intro x o hf;refine⟨hf,?_⟩;(have E:x≠u:=by rintro rfl;exact f o hf);simp only[World.cell?,O x (D.fixlt x o hf) E]);(have fy:CM (λk=>k=.hobj n) w G F G:=by refine⟨?_,λ_ _ h=>h⟩;intro x Z d E;refine⟨d,O x (D.owlt x Z d) ?_,λ_ h=>h⟩;rintro rfl;rw[k2]at d;simp only[aa]at d;exact E d.symm);refine⟨_,G,rfl,.tuple _ _ rfl (by intro i c p t hp;simp at t),ft,?_⟩;refine⟨D.only,λx o hf=>ci (D.fixlt x o hf) g4,λx Z d=>ci (D.owlt x Z d) g4,?_,λm x d=>by simpa using D.hdom m x d⟩;refine D.heap.keepBut ft fy (by intro n' k' E;simp[E]) ?_;intro mB;refine .inr ⟨u,hb,k2,f,_,T,qq,?_,?_⟩;{rw[U];have h0:=I.1;simp only[ao,ff,JV];omega};intro j c x t d;(have X:j<A.size:=by rw[<-U];exact(cz.1 t).1);by_cases hj:j<len*2;{(have Q:j<(EU ts).length:=by rw[KT];omega);rw[ap (by rw[JV];omega)]at d;obtain⟨z,rfl,h2⟩:=Z6 d;(have:c=.int .i64 z:=by simp[putCells,X,Q]at t;rw[al Q]at h2;simp only[aa]at h2;rw[<-t,h2]);subst this;exact⟨.int _ _,rfl,True.intro⟩};(have Q:(ts.flatMap Cv).length<=j:=by rw[JV];omega);rw[av Q]at d;simp only[dh,JV]at d;have d:M[len*2+(j-ts.length*2)]?=some x:=d;rw[show len*2+(j-ts.length*2)=j by omega]at d;(have j4:A[j]?=some c:=by simp[putCells,X,show¬j<(EU ts).length by rw[KT];omega]at t;simp[X,t]);exact(a3 j c x j4 d).keep ft fy (by simp)};simp at B};simp at B};{rename_i o q;simp only[aa,ae]at B;obtain⟨rfl,rfl⟩:=B;obtain⟨l⟩:=H;match l,fH with|[v,v2],_=>have hv:=S 0 v _ rfl rfl;(obtain⟨p,cap,rfl⟩:∃p cap,v=.slice p 0 cap:=by cases hv with|nils=>exact⟨none,0,rfl⟩|void _ a cap=>exact⟨some a,cap,rfl⟩|list _ b off len cap sz _ A I fJ _ _ _ _=>simp at I;subst I;exact⟨_,cap,rfl⟩);refine(hk▸AnyF.slices_SortFunc_none L p cap v2 w).mono ?_;rintro e F⟨rfl,rfl⟩;exact⟨_,G,rfl,.tuple _ _ rfl (by intro i c p t hp;simp at t),Ext.refl _ _,D⟩};simp at B
end
end PI
set_option maxRecDepth 100000
namespace Go.Proofs.YtljbhgpanekomaaGreat.Pi
open Go Go.Shelf Go.RowKit Go.Lib Go.Sort PI
set_option maxHeartbeats 4000000 in theorem c8M(b:Nat)(x y:Int)(W:World)(h0:x≠0)(hx:W.cell? ⟨b,0,none⟩=some (.int .i64 x))(hy:W.cell? ⟨b,1,none⟩=some (.int .i64 y)):Calls Tryz.prog 51 #[.slice (some ⟨b,0,none⟩) 2 2] W λe w'=>e=.returned (.int .i64 x)/\w'=W:=by(have h1:(x !=0)=true:=by simp[h0]);go_enter Tryz.func51,Tryz.ntmps51;go_wp2;refine wp_loop_rounds 1 ?_;rw[rounds_succ];go_wp2;go_ret;exact⟨rfl,rfl⟩
set_option maxHeartbeats 4000000 in theorem d1I(b:Nat)(y:Int)(W:World)(h0:y=0\/y≠0)(hx:W.cell? ⟨b,0,none⟩=some (.int .i64 0))(hy:W.cell? ⟨b,1,none⟩=some (.int .i64 y)):Calls Tryz.prog 51 #[.slice (some ⟨b,0,none⟩) 2 2] W λe w'=>e=.returned (.int .i64 y)/\w'=W:=by go_enter Tryz.func51,Tryz.ntmps51;go_wp2;refine wp_loop_rounds 3 ?_;rw[rounds_succ];go_wp2;rw[rounds_succ];rcases h0 with rfl|h0;{go_wp2;rw[rounds_succ];go_wp2;go_ret;exact⟨rfl,rfl⟩};(have h1:(y !=0)=true:=by simp[h0]);go_wp2;go_ret;exact⟨rfl,rfl⟩
theorem d1J(b:Nat)(x y:Int)(W:World)(c:W.cell? ⟨b,0,none⟩=some (.int .i64 x))(a:W.cell? ⟨b,1,none⟩=some (.int .i64 y)):Calls Tryz.prog 51 #[.slice (some ⟨b,0,none⟩) 2 2] W λe d=>e=.returned (.int .i64 (if x=0 then y else x))/\d=W:=by by_cases h:x=0;{subst h;rw[af rfl];exact d1I b y W (by omega) c a};rw[ah h];exact c8M b x y W h c a
theorem c4r(x y:Int×Int):(if Lib.compareInt x.1 y.1=0 then Lib.compareInt x.2 y.2 else Lib.compareInt x.1 y.1)=Im x y:=by unfold Lib.compareInt Im;(repeat' split)<;>first|rfl|omega
theorem c4s{P:Program}{id:Nat}{Q:Exit->Act->World->Prop}{a:Act}{w:World}{l:List Oper}(n:Nat)(d:P.follows .mixedOrders=true)(b:Region.lexTailB .any l.toArray n=true)(h:wpStill P l.toArray w.drew (λc=>wpList P l.toArray Q (l.drop n) c w.drew) (l.take n) a):(Code.region id l.toArray true).wp P Q a w:=wp_region_still_tail n d b h
set_option maxHeartbeats 4000000 in theorem c8N(x y:Int×Int)(W:World):Calls Tryz.prog 50 #[.agg (Fh x).toArray,.agg (Fh y).toArray] W λe w'=>e=.returned (.int .i64 (Im x y))/\∃q os',w'=grow (W.drewN q) os':=by have pN:=λx y W'=>Any.cmp_Compare_int Tryz.lays122 x y W';change∀x y W',Calls Tryz.prog 52 #[.int .i64 x,.int .i64 y] W' (λe w'=>e=.returned (.int .i64 (Lib.compareInt x y))/\w'=W')at pN;rw[<-c4r];obtain⟨x1,x2⟩:=x;obtain⟨y1,y2⟩:=y;simp only;show Calls Tryz.prog 50 #[.agg #[.int .i64 x1,.int .i64 x2],.agg #[.int .i64 y1,.int .i64 y2]] W _;have h1:=pN x1 y1;have h2:=pN x2 y2;generalize Lib.compareInt x1 y1=r1 at h1⊢;generalize Lib.compareInt x2 y2=r2 at h2⊢;clear pN;have xZ:=λb W hx hy=>d1J b r1 r2 W hx hy;generalize hr:(if r1=0 then r2 else r1)=r at xZ⊢;clear hr;go_enter Tryz.func50,Tryz.ntmps50;go_wp2;refine c4s 10 (by kernel_rfl) (by kernel_rfl) ?_;simp only[List.take_succ_cons,ez,List.drop_succ_cons,List.drop_zero];still_step;still_step;still_step;still_step;still_call(h1 _);still_step;still_step;still_step;still_step;still_call(h2 _);refine wpStill_nil ?_;go_wp2_with fail;refine(xZ _ _ ?_ ?_).mono ?_;{simp only[World.cell?_drew];exact World.cell?_alloc_at _ _ _ _ (by simp)};{simp only[World.cell?_drew];exact World.cell?_alloc_at _ _ _ _ (by simp)};rintro e w'⟨rfl,rfl⟩;simp only;go_wp2;go_ret;exact⟨rfl,1,_,by rw[alloc_eq_grow,alloc_eq_grow,alloc_eq_grow,grow_grow,grow_grow];rfl⟩
end Go.Proofs.YtljbhgpanekomaaGreat.Pi
namespace PI.Sc
def fup{a:Type}(f:Nat->a)(v:Nat)(x:a):Nat->a:=λu=>if u=v then x else f u
theorem Cq{a:Type}(f:Nat->a)(v:Nat)(x:a):fup f v x v=x:=by simp[fup]
theorem CA{a:Type}(f:Nat->a){v u:Nat}(x:a)(h:u≠v):fup f v x u=f u:=by simp[fup,h]
def Sn(n:Nat)(N:Nat->List Nat)(f:Nat->Nat):Prop:=∀u,u<n->∀w∈N u,f u<f w
structure TS where
 ix:Nat->Nat
 lo:Nat->Nat
 on:Nat->Bool
 st:List Nat
 ct:Nat
 nu:Nat->Nat
 pa:Nat
def DL(t:TS)(w:Nat):TS:={t with ct:=t.ct+1,ix:=fup t.ix w (t.ct+1),lo:=fup t.lo w (t.ct+1),st:=w::t.st,on:=fup t.on w true}
def Ev(t:TS)(p k:Nat):TS:={t with lo:=fup t.lo p (min (t.lo p) k)}
def IZ(t:TS)(w:Nat)(r:List Nat):TS:={t with st:=r,on:=fup t.on w false,nu:=fup t.nu w t.pa}
def Gn(v:Nat):List Nat->TS->TS|[],t=>t|w::r,t=>if w=v then IZ t w r else Gn v r (IZ t w r)
def CC(t:TS)(v:Nat):TS:=if t.lo v=t.ix v then{Gn v t.st t with pa:=t.pa+1}else t
def Fin1(t:TS)(k:Nat)(l:List Nat):Prop:=∀w∈l,0<t.ix w/\(w∈t.st->k<=t.ix w)
theorem Fin1.mono{t t':TS}{k b:Nat}{l:List Nat}(h:Fin1 t k l)(f:∀w,0<t.ix w->t'.ix w=t.ix w)(g:∀w,0<t.ix w->w∈t'.st->w∈t.st)(c:b<=k):Fin1 t' b l:=by intro w e;obtain⟨a,h2⟩:=h w e;rw[f w a];exact⟨a,λd=>bg c (h2 (g w a d))⟩
def Seg(N:Nat->List Nat)(b:Nat)(t:TS):List (Nat×Nat)->List Nat->Prop|[],r=>r=[]|(v,i)::F,r=>(F=[]->t.ix v=b)/\∃s a,r=s++v::a/\i<=(N v).length/\t.lo v<=t.ix v/\(∀x∈s,Fin1 t (t.lo v) (N x))/\Fin1 t (t.lo v) ((N v).take i)/\Seg N b t F a
theorem Seg.mono{N:Nat->List Nat}{b:Nat}{t t':TS}(a:∀w,0<t.ix w->t'.ix w=t.ix w)(d:∀w,0<t.ix w->w∈t'.st->w∈t.st):∀(F:List (Nat×Nat))(r:List Nat),Seg N b t F r->(∀v∈r,0<t.ix v)->(∀v∈r,t'.lo v<=t.lo v)->Seg N b t' F r|[],r,h,_,_=>h|(v,i)::F,r,⟨o,s,j,e,p,h2,l,m,n⟩,f,g=>by subst e;have hv:=f v (by simp);have k:=g v (by simp);refine⟨λe=>?_,s,j,rfl,p,?_,λx c=>(l x c).mono a d k,m.mono a d k,Seg.mono a d F j n (λx c=>f x (by simp[c])) (λx c=>g x (by simp[c]))⟩;{rw[a v hv];exact o e};rw[a v hv];omega
theorem Seg.step{N:Nat->List Nat}{b v i:Nat}{t:TS}{F:List (Nat×Nat)}{r:List Nat}(h:Seg N b t ((v,i)::F) r)(hi:i<(N v).length)(hf:Fin1 t (t.lo v) [(N v)[i]]):Seg N b t ((v,i+1)::F) r:=by obtain⟨j,s,c,e,k,h2,f,g,d⟩:=h;refine⟨j,s,c,e,hi,h2,f,?_,d⟩;intro w a;rw[dc,al hi]at a;rcases aq.1 a with a|a;{exact g w a};exact hf w a
structure TI0(n:Nat)(N:Nat->List Nat)(b k:Nat)(t:TS)(F:List (Nat×Nat)):Prop where
 on:∀v,t.on v=true↔v∈t.st
 nd:t.st.Pairwise (λa c=>t.ix c<t.ix a)
 lt:∀v∈t.st,v<n
 pos:∀v∈t.st,b<=t.ix v/\b<=t.lo v/\t.ix v<=t.ct
 b0:0<b
 cl:∀v,0<t.ix v->v∉t.st->t.nu v<t.pa/\∀w∈N v,0<t.ix w/\w∉t.st/\t.nu w<=t.nu v
 seg:Seg N b t F t.st
 vis:∀v,v<k->0<t.ix v
section
variable{n:Nat}{N:Nat->List Nat}{b k v i:Nat}{t:TS}{F:List (Nat×Nat)}
theorem TI0.ixp(h:TI0 n N b k t F):∀x∈t.st,0<t.ix x:=λx a=>by have:=(h.pos x a).1;have:=h.b0;omega
theorem TI0.top(h:TI0 n N b k t ((v,i)::F)):v∈t.st/\i<=(N v).length/\t.lo v<=t.ix v:=by obtain⟨d,s,c,e,a,h2,_⟩:=h.seg;exact⟨by rw[e];simp,a,h2⟩
theorem TI0.nodup(h:TI0 n N b k t F):t.st.Nodup:=h.nd.imp (λh e=>by subst e;omega)
theorem TI0.step(h:TI0 n N b k t ((v,i)::F))(hi:i<(N v).length)(hf:Fin1 t (t.lo v) [(N v)[i]]):TI0 n N b k t ((v,i+1)::F):={h with seg:=h.seg.step hi hf}
theorem TI0.skip(h:TI0 n N b k t ((v,i)::F))(hi:i<(N v).length)(e:0<t.ix (N v)[i])(c:t.on (N v)[i]=false):TI0 n N b k t ((v,i+1)::F):=by refine h.step hi ?_;intro w a;rw[bc]at a;subst a;exact⟨e,λd=>by rw[(h.on _).2 d]at c;cases c⟩
theorem TI0.min(h:TI0 n N b k t F){p m:Nat}(g:b<=m):TI0 n N b k (Ev t p m) F:=by(have d:∀x,(Ev t p m).lo x<=t.lo x:=by intro x;show fup t.lo p _ x<=_;by_cases e:x=p;{subst e;rw[Cq];omega};rw[CA _ _ e];exact an _);refine{on:=h.on,nd:=h.nd,lt:=h.lt,b0:=h.b0,cl:=h.cl,vis:=h.vis,seg:=Seg.mono (t:=t) (t':=Ev t p m) (λ_ _=>rfl) (λ_ _ h=>h) F t.st h.seg h.ixp (λx _=>d x),pos:=?_};intro x a;obtain⟨f,h2,c⟩:=h.pos x a;refine⟨f,?_,c⟩;show _<=fup t.lo p _ x;by_cases e:x=p;{subst e;rw[Cq];omega};rw[CA _ _ e];exact h2
theorem TI0.back(h:TI0 n N b k t ((v,i)::F))(hi:i<(N v).length)(d:t.on (N v)[i]=true):TI0 n N b k (Ev t v (t.ix (N v)[i])) ((v,i+1)::F):=by have c:=(h.on _).1 d;refine(h.min (h.pos _ c).1).step hi ?_;intro w a;rw[bc]at a;subst a;refine⟨h.ixp _ c,λ_=>?_⟩;show fup t.lo v _ v<=t.ix _;rw[Cq];omega
theorem TI0.enter0(h:TI0 n N b k t F)(hb:F≠[]->b<=t.ct){w:Nat}(C:w<n)(M:t.ix w=0){b':Nat}(r:F≠[]->b'=b)(v:F=[]->b'=t.ct+1){p:Nat}(B:p=k\/(p=k+1/\w=k)):TI0 n N b' p (DL t w) ((w,0)::F):=by
 have g:=h.ixp;have L:w∉t.st:=λd=>by have:=g w d;omega
 have f:∀x,0<t.ix x->(DL t w).ix x=t.ix x:=λx a=>CA _ _ (by rintro rfl;omega);have s:∀x,x∈t.st->(DL t w).lo x=t.lo x:=λx a=>CA _ _ (by rintro rfl;exact L a);have z:∀x,0<t.ix x->x∈(DL t w).st->x∈t.st:=by intro x a d;rcases a8.1 d with rfl|d;{omega};exact d
 have m:(DL t w).ix w=t.ct+1:=Cq _ _ _;have A:F=[]->t.st=[]:=λe=>by have:=h.seg;rw[e]at this;exact this
 have l:b'<=t.ct+1/\0<b':=by by_cases e:F=[];{rw[v e];omega};rw[r e];have:=hb e;have:=h.b0;omega
 refine{on:=?_,nd:=?_,lt:=?_,pos:=?_,b0:=l.2,cl:=?_,seg:=?_,vis:=?_};{intro u;show fup t.on w true u=true↔u∈w::t.st;by_cases e:u=w;{subst e;simp[fup]};rw[CA _ _ e,h.on];simp[e]}
 {refine dM.2 ⟨λc o=>?_,h.nd.imp_of_mem λE o K=>?_⟩;{rw[f c (g c o),m];have:=(h.pos c o).2.2;omega};rw[f _ (g _ E),f _ (g _ o)];exact K}
 {intro x a;rcases a8.1 a with rfl|a;{exact C};exact h.lt x a}
 {intro x a;rcases a8.1 a with rfl|a;{rw[m];show _/\_<=fup t.lo x _ x/\_<=t.ct+1;rw[Cq];omega};(have e:F≠[]:=λe=>by rw[A e]at a;cases a);rw[f x (g x a),s x a,r e];obtain⟨i,h2,j⟩:=h.pos x a;exact⟨i,h2,Nat.le_succ_of_le j⟩}
 {intro x a d;have G:x≠w:=λe=>d (by subst e;exact ei);(have J:0<t.ix x:=by have:(DL t w).ix x=t.ix x:=CA _ _ G;omega);obtain⟨i,h2⟩:=h.cl x J (λq=>d (dm _ q));refine⟨i,λy H=>?_⟩;obtain⟨j,D,I⟩:=h2 y H;refine⟨by rw[f y j];exact j,?_,I⟩;intro q;exact D (z y j q)}
 {refine⟨λe=>(by rw[m,v e]),[],t.st,rfl,dW _,?_,λx a=>(by cases a),λx a=>(by simp at a),?_⟩;{rw[m];show fup t.lo w _ w<=_;rw[Cq];exact an _};by_cases e:F=[];{subst e;exact A rfl};rw[r e];exact Seg.mono f z F t.st h.seg g (λx a=>by rw[s x a];exact an _)}
 intro x a;by_cases e:x=w;{subst e;rw[m];omega}
 have i:=h.vis x (by rcases B with rfl|⟨rfl,rfl⟩<;>omega);rw[f x i];exact i
theorem TI0.enter(h:TI0 n N b k t ((v,i)::F))(hi:i<(N v).length)(a:(N v)[i]<n)(c:t.ix (N v)[i]=0):TI0 n N b k (DL t (N v)[i]) (((N v)[i],0)::(v,i+1)::F):=by obtain⟨hv,_,q⟩:=h.top;obtain⟨r,p,u⟩:=h.pos v hv;have d:TI0 n N b k (DL t (N v)[i]) (((N v)[i],0)::(v,i)::F):=h.enter0 (λ_=>by omega) a c (λ_=>rfl) (λe=>by cases e) (.inl rfl);refine{d with seg:=?_};obtain⟨g0,s,f,e,g1,g,l,m,j⟩:=d.seg;refine⟨λe=>(by cases e),s,f,e,g1,g,l,m,j.step hi ?_⟩;intro w a;rw[bc]at a;subst a;(have o:v≠(N v)[i]:=λe=>by have:=h.ixp v hv;rw[<-e]at c;omega);show 0<fup t.ix _ _ _/\(_->fup t.lo _ _ v<=fup t.ix _ _ _);rw[Cq,CA _ _ o];exact⟨by omega,λ_=>by omega⟩
theorem TI0.begin(h:TI0 n N b k t [])(a:k<n)(c:t.ix k=0):TI0 n N (t.ct+1) (k+1) (DL t k) [(k,0)]:=h.enter0 (λe=>absurd rfl e) a c (λe=>absurd rfl e) (λ_=>rfl) (.inr ⟨rfl,rfl⟩)
theorem TI0.known(h:TI0 n N b k t [])(a:t.ix k≠0):TI0 n N b (k+1) t []:=by refine{h with vis:=?_};intro v hv;by_cases e:v=k;{subst e;omega};exact h.vis v (by omega)
theorem L2(v:Nat)(r:List Nat):∀(s:List Nat)(t:TS),v∉s->Gn v (s++v::r) t={t with st:=r,on:=λu=>if u∈s++[v]then false else t.on u,nu:=λu=>if u∈s++[v]then t.pa else t.nu u}|[],t,_=>by simp only[de,Gn,if_true,IZ,bc];rfl|w::s,t,h=>by have b:w≠v:=λe=>h (by simp[e]);rw[bl,Gn,ah b,L2 v r s _ (λa=>h (by simp[a]))];unfold IZ;congr 1;{funext u;show(if u∈s++[v]then false else fup t.on w false u)=if u∈w::s++[v]then false else t.on u;by_cases h1:u∈s++[v];{have:u∈w::s++[v]:=dm _ h1;rw[af h1,af this]};rw[ah h1];by_cases h2:u=w;{subst h2;rw[Cq,af (by simp)]};rw[CA _ _ h2,ah (show¬u∈w::s++[v]fromλa=>(a8.1 a).elim h2 h1)]};funext u;show(if u∈s++[v]then t.pa else fup t.nu w t.pa u)=if u∈w::s++[v]then t.pa else t.nu u;by_cases h1:u∈s++[v];{have:u∈w::s++[v]:=dm _ h1;rw[af h1,af this]};rw[ah h1];by_cases h2:u=w;{subst h2;rw[Cq,af (by simp)]};rw[CA _ _ h2,ah (show¬u∈w::s++[v]fromλa=>(a8.1 a).elim h2 h1)]
theorem TI0.close(h:TI0 n N b k t ((v,i)::F))(hi:i=(N v).length)(D:t.lo v=t.ix v):TI0 n N b k (CC t v) F:=by
 obtain⟨M,s,r,e,O,h2,C,p,K⟩:=h.seg;have q:=h.nd;rw[e]at q;obtain⟨L,I,y⟩:=ej.1 q;obtain⟨n4,B⟩:=dM.1 I;have G:v∉s:=λg=>by have:=y v g v (by simp);omega
 unfold CC;rw[af D,e,L2 v r s t G];rw[hi,ba]at p;have hd:∀u,u∈s++[v]->u∉r:=by intro u a j;rcases aq.1 a with a|a;{have:=y u a u (by simp[j]);omega};rw[bc]at a;subst a;have:=n4 u j;omega
 have c:∀u,u∈t.st↔u∈s++[v]\/u∈r:=by intro u;rw[e];simp[or_assoc]
 have J:∀u,u∈s++[v]->Fin1 t (t.lo v) (N u):=by intro u a;rcases aq.1 a with a|a;{exact C u a};rw[bc]at a;subst a;exact p
 refine{on:=?_,nd:=B,lt:=λx d=>h.lt x ((c x).2 (.inr d)),pos:=λx d=>h.pos x ((c x).2 (.inr d)),b0:=h.b0,cl:=?_,seg:=?_,vis:=h.vis};{intro u;show(if u∈s++[v]then false else t.on u)=true↔u∈r;by_cases a:u∈s++[v];{rw[af a];exact⟨λh=>(by cases h),λj=>absurd j (hd u a)⟩};rw[ah a,h.on,c];exact⟨λh=>h.resolve_left a,.inr⟩}
 {intro u a j;show(if u∈s++[v]then t.pa else t.nu u)<t.pa+1/\∀w∈N u,0<t.ix w/\w∉r/\(if w∈s++[v]then t.pa else t.nu w)<=(if u∈s++[v]then t.pa else t.nu u);by_cases g:u∈s++[v];{simp only[af g];refine⟨by omega,λw m=>?_⟩;obtain⟨g1,o⟩:=J u g w m;(have l:w∉r:=λl=>by have:=o ((c w).2 (.inr l));have:=n4 w l;omega);refine⟨g1,l,?_⟩;by_cases rm:w∈s++[v];{rw[af rm];exact an _};rw[ah rm];have:=(h.cl w g1 (λf=>((c w).1 f).elim rm l)).1;omega};have A:u∉t.st:=λf=>((c u).1 f).elim g j;obtain⟨g1,o⟩:=h.cl u a A;simp only[ah g];refine⟨by omega,λw m=>?_⟩;obtain⟨H,z,E⟩:=o w m;rw[ah (λf=>z ((c w).2 (.inl f)))];exact⟨H,λf=>z ((c w).2 (.inr f)),E⟩}
 refine Seg.mono (t:=t) ?_ ?_ F r K (λx d=>h.ixp x ((c x).2 (.inr d))) ?_;{intro _ _;rfl}
 {intro x _ d;exact(c x).2 (.inr d)}
 intro x _;exact an _
theorem TI0.merge{p j:Nat}(h:TI0 n N b k t ((v,i)::(p,j)::F))(hi:i=(N v).length)(u:t.lo p<=t.lo v):TI0 n N b k t ((p,j)::F):=by obtain⟨z,s,r,e,A,h2,g,d,g0,f,q,e2,g1,w,o,y,m⟩:=h.seg;rw[hi,ba]at d;have c:∀{l},Fin1 t (t.lo v) l->Fin1 t (t.lo p) l:=λh=>h.mono (λ_ _=>rfl) (λ_ _ h=>h) u;refine{h with seg:=⟨g0,s++v::f,q,by rw[e,e2];simp,g1,w,?_,y,m⟩};intro x a;rcases aq.1 a with a|a;{exact c (g x a)};rcases a8.1 a with rfl|a;{exact c d};exact o x a
theorem TI0.root(h:TI0 n N b k t [(v,i)]):t.lo v=t.ix v:=by obtain⟨hv,_,a⟩:=h.top;have:=h.seg.1 rfl;have:=(h.pos v hv).2.1;omega
theorem TI0.leave{p j:Nat}(h:TI0 n N b k t ((v,i)::(p,j)::F))(hi:i=(N v).length):TI0 n N b k (Ev (CC t v) p ((CC t v).lo v)) ((p,j)::F):=by obtain⟨hv,_,f⟩:=h.top;have hb:=(h.pos v hv).2.1;by_cases he:t.lo v=t.ix v;{refine(h.close hi he).min ?_;unfold CC;rw[af he];obtain⟨_,s,r,e,_⟩:=h.seg;have a:=h.nd;rw[e]at a;(have c:v∉s:=λd=>by have:=(ej.1 a).2.2 v d v (by simp);omega);rw[e,L2 v r s t c];exact hb};have e:CC t v=t:=ah he;rw[e];refine TI0.merge (v:=v) (i:=i) (h.min hb) hi ?_;show fup t.lo p _ p<=fup t.lo p _ v;rw[Cq];by_cases e:v=p;{subst e;rw[Cq];exact an _};rw[CA _ _ e];omega
theorem TI0.done(h:TI0 n N b k t [])(d:n<=k):∀v,v<n->t.nu v<t.pa/\∀w∈N v,t.nu w<=t.nu v:=by intro v hv;have hs:t.st=[]:=h.seg;obtain⟨c,h2⟩:=h.cl v (h.vis v (by omega)) (by rw[hs];simp);exact⟨c,λw a=>(h2 w a).2.2⟩
end
inductive Rch(N:Nat->List Nat)(a:Nat):Nat->Prop where|refl:Rch N a a|tail{b c:Nat}:Rch N a b->c∈N b->Rch N a c
theorem Rch.trans{N:Nat->List Nat}{a b c:Nat}(h:Rch N a b)(f:Rch N b c):Rch N a c:=by induction f with|refl=>exact h|tail _ e d=>exact .tail d e
theorem Rch.one{N:Nat->List Nat}{a b:Nat}(h:b∈N a):Rch N a b:=.tail .refl h
def SR2(N:Nat->List Nat)(t:TS):List (Nat×Nat)->List Nat->Prop|[],r=>r=[]|(v,_)::F,r=>∃s a,r=s++v::a/\(∀x∈s,Rch N v x/\t.lo v<=t.lo x/\t.lo x<t.ix x)/\t.lo v<=t.ix v/\(∀f∈F.head?,Rch N f.1 v)/\SR2 N t F a
structure RI(N:Nat->List Nat)(t:TS)(F:List (Nat×Nat)):Prop where
 lowest:∀x∈t.st,∃y∈t.st,t.ix y=t.lo x/\Rch N x y
 segs:SR2 N t F t.st
 strong:∀x y,0<t.ix x->x∉t.st->0<t.ix y->y∉t.st->t.nu x=t.nu y->Rch N x y
theorem SR2.mono{N:Nat->List Nat}{t t':TS}:∀(F:List (Nat×Nat))(r:List Nat),SR2 N t F r->(∀x∈r,t'.ix x=t.ix x/\t'.lo x=t.lo x)->SR2 N t' F r|[],r,h,_=>h|(v,i)::F,r,⟨s,b,e,k,h2,d,f⟩,hs=>by subst e;obtain⟨g,e2⟩:=hs v (by simp);refine⟨s,b,rfl,λx a=>?_,by rw[g,e2];exact h2,d,SR2.mono F b f λx a=>hs x (by simp[a])⟩;obtain⟨c,j⟩:=hs x (by simp[a]);rw[e2,c,j];exact k x a
theorem SR2.le{N:Nat->List Nat}{t:TS}:∀(F:List (Nat×Nat))(r:List Nat),SR2 N t F r->∀x∈r,t.lo x<=t.ix x|[],r,h,x,a=>by rw[h]at a;cases a|(v,i)::F,r,⟨s,b,e,d,h2,_,c⟩,x,a=>by subst e;rcases aq.1 a with a|a;{exact Nat.le_of_lt (d x a).2.2};rcases a8.1 a with rfl|a;{exact h2};exact SR2.le F b c x a
theorem SR2.fall{N:Nat->List Nat}{t:TS}{v i m:Nat}{F:List (Nat×Nat)}{r:List Nat}(hn:r.Nodup)(h:SR2 N t ((v,i)::F) r)(j:Nat):SR2 N (Ev t v m) ((v,j)::F) r:=by obtain⟨s,f,e,l,h2,g,k⟩:=h;subst e;have hv:=dX.1 hn;(have lv:(Ev t v m).lo v<=t.lo v:=by show fup t.lo v _ v<=_;rw[Cq];omega);have lo:∀x,x≠v->(Ev t v m).lo x=t.lo x:=λx d=>CA _ _ d;refine⟨s,f,rfl,λx d=>?_,bg lv h2,g,SR2.mono F f k λx d=>⟨rfl,lo x ?_⟩⟩;{obtain⟨a,b,c⟩:=l x d;rw[lo x (λe=>hv.2.2 x d v (by simp) e)];exact⟨a,by omega,c⟩};rintro rfl;exact(d9.1 hv.2.1).1 d
section
variable{n:Nat}{N:Nat->List Nat}{b k v i:Nat}{t:TS}{F:List (Nat×Nat)}
theorem RI.min{p m:Nat}(h:RI N t F){c:List (Nat×Nat)}(hs:SR2 N (Ev t p m) c t.st)(j:∃y∈t.st,t.ix y=m/\Rch N p y):RI N (Ev t p m) c:=by refine⟨λx i=>?_,hs,h.strong⟩;obtain⟨y,d,h2,b⟩:=h.lowest x i;by_cases e:x=p;{subst e;have a:(Ev t x m).lo x=Min.min (t.lo x) m:=Cq _ _ _;by_cases gS:t.lo x<=m;{exact⟨y,d,by rw[a];show t.ix y=_;rw[h2];omega,b⟩};obtain⟨z,k,g,f⟩:=j;exact⟨z,k,by rw[a];show t.ix z=_;rw[g];omega,f⟩};exact⟨y,d,by show t.ix y=fup t.lo p _ x;rw[CA _ _ e];exact h2,b⟩
theorem RI.step(h:RI N t ((v,i)::F))(j:Nat):RI N t ((v,j)::F):=⟨h.lowest,h.segs,h.strong⟩
theorem RI.back(h:RI N t ((v,i)::F))(hn:t.st.Nodup){w:Nat}(a:w∈t.st)(b:w∈N v)(j:Nat):RI N (Ev t v (t.ix w)) ((v,j)::F):=h.min (h.segs.fall hn j) ⟨w,a,rfl,.one b⟩
theorem RI.enter{w j:Nat}(h:RI N t F)(q:t.ix w=0)(l:w∉t.st)(hp:∀x∈t.st,0<t.ix x)(n:∀f∈F.head?,w∈N f.1):RI N (DL t w) ((w,j)::F):=by have ix:∀x,x≠w->(DL t w).ix x=t.ix x:=λx a=>CA _ _ a;have lo:∀x,x≠w->(DL t w).lo x=t.lo x:=λx a=>CA _ _ a;have ne:∀x∈t.st,x≠w:=λx a e=>l (e▸a);refine⟨λx a=>?_,⟨[],t.st,rfl,by simp,?_,λf hf=>.one (n f hf),SR2.mono F t.st h.segs λx a=>⟨ix x (ne x a),lo x (ne x a)⟩⟩,λx y a d c g p=>?_⟩;{rcases a8.1 a with rfl|a;{refine⟨x,ei,?_,.refl⟩;show fup t.ix x _ x=fup t.lo x _ x;rw[Cq,Cq]};obtain⟨y,i,h2,m⟩:=h.lowest x a;exact⟨y,dm _ i,by rw[ix y (ne y i),lo x (ne x a)];exact h2,m⟩};{show fup t.lo w _ w<=fup t.ix w _ w;rw[Cq,Cq];exact an _};have o:x≠w:=λe=>d (by subst e;exact ei);have k:y≠w:=λe=>g (by subst e;exact ei);rw[ix x o]at a;rw[ix y k]at c;exact h.strong x y a (λb=>d (dm _ b)) c (λb=>g (dm _ b)) p
theorem RI.close(h:RI N t ((v,i)::F))(E:TI0 n N b k t ((v,i)::F))(L:t.lo v=t.ix v):RI N (CC t v) F:=by
 obtain⟨s,r,e,p,h2,C,D⟩:=h.segs;have I:=E.nd;rw[e]at I;obtain⟨U,O,J⟩:=ej.1 I;obtain⟨n4,Q⟩:=dM.1 O;have M:v∉s:=λG=>by have:=J v G v (by simp);omega
 have B:=h.lowest;have H:=h.strong;have A:=E.cl;unfold CC;rw[af L,e,L2 v r s t M];rw[e]at B H A;have up:∀u∈s++[v],∀x∈r,t.ix x<t.ix u:=λu f x c=>by rcases aq.1 f with f|f;{exact J u f x (by simp[c])};rw[bc]at f;subst f;exact n4 x c
 have split:∀y,y∈s++v::r->y∈s++[v]\/y∈r:=by intro y a;simp[or_assoc]at a⊢;exact a
 refine⟨λx c=>?_,SR2.mono F r D λx c=>⟨rfl,rfl⟩,?_⟩;{obtain⟨y,w,K,q⟩:=B x (by have c:x∈r:=c;simp[c]);have T:=SR2.le F r D x c;rcases split y w with a|a;{have:=up y a x c;omega};exact⟨y,a,K,q⟩}
 have j:∀m x,t.ix x=m->x∈s++[v]->Rch N x v:=by intro m;induction m using Nat.strongRecOn with|_ m P=>intro x G c;rcases aq.1 c with hs|hs;{obtain⟨V,R,S⟩:=p x hs;obtain⟨y,w,K,q⟩:=B x (by simp[hs]);rcases split y w with a|a;{exact q.trans (P _ (by omega) y rfl a)};have:=n4 y a;omega};rw[bc]at hs;subst hs;exact .refl
 have g:∀x y,x∈s++[v]->y∈s++[v]->Rch N x y:=λx y c a=>by refine(j _ x rfl c).trans ?_;rcases aq.1 a with a|a;{exact(p y a).1};rw[bc]at a;subst a;exact .refl
 intro x y c o a l d;have o:x∉r:=o;have l:y∉r:=l;have c:0<t.ix x:=c;have a:0<t.ix y:=a;have d:(if x∈s++[v]then t.pa else t.nu x)=if y∈s++[v]then t.pa else t.nu y:=d;have out:∀z,z∉s++[v]->z∉r->z∉s++v::r:=λz p h2 C=>(split z C).elim p h2;by_cases jP:x∈s++[v];{by_cases mf:y∈s++[v];{exact g x y jP mf};rw[af jP,ah mf]at d;have:=(A y a (out y mf l)).1;omega}
 by_cases mf:y∈s++[v];{rw[ah jP,af mf]at d;have:=(A x c (out x jP o)).1;omega}
 rw[ah jP,ah mf]at d;exact H x y c (out x jP o) a (out y mf l) d
theorem RI.merge{p j:Nat}(h:RI N t ((v,i)::(p,j)::F))(hn:t.st.Nodup)(D:t.lo v≠t.ix v):RI N (Ev t p (t.lo v)) ((p,j)::F):=by
 obtain⟨s,r,e,B,h2,n,f,g,e2,g1,z,q,A⟩:=h.segs;have l:=n (p,j) (by simp);have hv:v∈t.st:=by rw[e];simp
 obtain⟨y,w,C,o⟩:=h.lowest v hv;refine h.min ?_ ⟨y,w,C,l.trans o⟩;rw[e,e2]at hn⊢;have u:∀x,x∈s++v::f->x≠p:=by rintro x d rfl;(have k:s++v::(f++x::g)=(s++v::f)++x::g:=by simp);rw[k]at hn;exact(dX.1 hn).2.2 x d x (by simp) rfl
 have m:(Ev t p (t.lo v)).lo p<=t.lo p/\(Ev t p (t.lo v)).lo p<=t.lo v:=by show fup t.lo p _ p<=_/\fup t.lo p _ p<=_;rw[Cq];omega
 have lo:∀x,x≠p->(Ev t p (t.lo v)).lo x=t.lo x:=λx d=>CA _ _ d;refine⟨s++v::f,g,by simp,λx d=>?_,bg m.1 z,q,SR2.mono F g A λx d=>⟨rfl,lo x ?_⟩⟩;{rw[lo x (u x d)];show _/\_/\t.lo x<t.ix x;rcases aq.1 d with d|d;{obtain⟨a,b,c⟩:=B x d;exact⟨l.trans a,by omega,c⟩};rcases a8.1 d with rfl|d;{exact⟨l,m.2,by omega⟩};obtain⟨a,b,c⟩:=g1 x d;exact⟨a,by omega,c⟩}
 rintro rfl;have k:s++v::(f++x::g)=(s++v::f)++x::g:=by simp
 rw[k]at hn;exact(d9.1 (dX.1 hn).2.1).1 d
theorem c84(f:Nat->Nat)(p:Nat):fup f p (f p)=f:=by funext u;by_cases e:u=p;{subst e;exact Cq _ _ _};exact CA _ _ e
structure TI(n:Nat)(N:Nat->List Nat)(b k:Nat)(t:TS)(F:List (Nat×Nat)):Prop extends TI0 n N b k t F where
 ri:RI N t F
theorem TI.top(h:TI n N b k t ((v,i)::F)):v∈t.st/\i<=(N v).length/\t.lo v<=t.ix v:=h.toTI0.top
theorem TI.nodup(h:TI n N b k t F):t.st.Nodup:=h.toTI0.nodup
theorem TI.skip(h:TI n N b k t ((v,i)::F))(hi:i<(N v).length)(a:0<t.ix (N v)[i])(c:t.on (N v)[i]=false):TI n N b k t ((v,i+1)::F):=⟨h.toTI0.skip hi a c,h.ri.step _⟩
theorem TI.back(h:TI n N b k t ((v,i)::F))(hi:i<(N v).length)(a:t.on (N v)[i]=true):TI n N b k (Ev t v (t.ix (N v)[i])) ((v,i+1)::F):=⟨h.toTI0.back hi a,h.ri.back h.nodup ((h.on _).1 a) (ac hi) _⟩
theorem TI.fresh(h:TI n N b k t F){w:Nat}(c:t.ix w=0):w∉t.st:=λa=>by have:=h.toTI0.ixp w a;omega
theorem TI.enter(h:TI n N b k t ((v,i)::F))(hi:i<(N v).length)(c:(N v)[i]<n)(a:t.ix (N v)[i]=0):TI n N b k (DL t (N v)[i]) (((N v)[i],0)::(v,i+1)::F):=⟨h.toTI0.enter hi c a,(h.ri.step (i+1)).enter a (h.fresh a) h.toTI0.ixp λf hf=>by simp at hf;subst hf;exact ac hi⟩
theorem TI.begin(h:TI n N b k t [])(c:k<n)(a:t.ix k=0):TI n N (t.ct+1) (k+1) (DL t k) [(k,0)]:=⟨h.toTI0.begin c a,h.ri.enter a (h.fresh a) h.toTI0.ixp λf hf=>by simp at hf⟩
theorem TI.known(h:TI n N b k t [])(a:t.ix k≠0):TI n N b (k+1) t []:=⟨h.toTI0.known a,h.ri⟩
theorem TI.close(h:TI n N b k t ((v,i)::F))(hi:i=(N v).length)(a:t.lo v=t.ix v):TI n N b k (CC t v) F:=⟨h.toTI0.close hi a,h.ri.close h.toTI0 a⟩
theorem TI.root(h:TI n N b k t [(v,i)]):t.lo v=t.ix v:=h.toTI0.root
theorem TI.leave{p j:Nat}(h:TI n N b k t ((v,i)::(p,j)::F))(hi:i=(N v).length):TI n N b k (Ev (CC t v) p ((CC t v).lo v)) ((p,j)::F):=by refine⟨h.toTI0.leave hi,?_⟩;by_cases he:t.lo v=t.ix v;{have d:=h.ri.close h.toTI0 he;obtain⟨s,r,e,z,h2,o,m,x,e2,g1,q,u,w⟩:=h.ri.segs;have a:=h.nd;rw[e]at a;(have g:v∉s:=λl=>by have:=(ej.1 a).2.2 v l v (by simp);omega);have y:t.ix p<t.ix v:=(dM.1 (ej.1 a).2.1).1 p (by rw[e2];simp);(have c:(CC t v).lo=t.lo:=by unfold CC;rw[af he,e,L2 v r s t g]);(have f:Ev (CC t v) p ((CC t v).lo v)=CC t v:=by unfold Ev;rw[c];(have:Min.min (t.lo p) (t.lo v)=t.lo p:=by omega);rw[this,c84,<-c]);rw[f];exact d};have e:CC t v=t:=ah he;rw[e];exact h.ri.merge h.nodup he
theorem TI.done(h:TI n N b k t [])(a:n<=k):∀v,v<n->t.nu v<t.pa/\∀w∈N v,t.nu w<=t.nu v:=h.toTI0.done a
theorem TI.strong(h:TI n N b k t [])(c:n<=k){x y:Nat}(e:x<n)(d:y<n)(a:t.nu x=t.nu y):Rch N x y:=by have hs:t.st=[]:=h.seg;exact h.ri.strong x y (h.vis x (by omega)) (by rw[hs];simp) (h.vis y (by omega)) (by rw[hs];simp) a
end
theorem b8P{n:Nat}{N:Nat->List Nat}{nu:Nat->Nat}{pa:Nat}(hn:∀v,v<n->∀w∈N v,w<n)(h:∀v,v<n->nu v<pa/\∀w∈N v,nu w<=nu v)(hs:∀v,v<n->v∉N v)(hi:∀u v,u<n->v<n->nu u=nu v->u=v):Sn n N λv=>pa-nu v:=by intro u b w a;have c:=hn u b w a;obtain⟨g,h2⟩:=h u b;have d:=h2 w a;have f:=(h w c).1;have:nu w≠nu u:=λe=>hs u b (by rw[hi u w b c e.symm]at a⊢;exact a);show pa-nu u<pa-nu w;omega
def tot:Nat->(Nat->Nat)->Nat|0,_=>0|n+1,f=>tot n f+f n
theorem N9{f g:Nat->Nat}:∀n,(∀v,v<n->f v=g v)->tot n f=tot n g|0,_=>rfl|n+1,h=>by rw[tot,tot,N9 n (λv hv=>h v (by omega)),h n (by omega)]
theorem L3{f g:Nat->Nat}:∀n,(∀v,v<n->f v<=g v)->tot n f<=tot n g|0,_=>an _|n+1,h=>by have:=L3 n (λv hv=>h v (by omega));have:=h n (by omega);simp only[tot];omega
theorem L4{f g:Nat->Nat}{w c:Nat}:∀n,(∀v,v<n->f v<=g v)->w<n->f w+c<=g w->tot n f+c<=tot n g|0,_,h,_=>by omega|n+1,h,b,a=>by by_cases e:w=n;{subst e;have:=L3 w (λv hv=>h v (by omega));simp only[tot];omega};have:=L4 n (λv hv=>h v (by omega)) (by omega) a;have:=h n (by omega);simp only[tot];omega
theorem c85{f:Nat->Nat}{n v:Nat}(h:tot n f=0)(hv:v<n):f v=0:=by have:=L4 (f:=λ_=>0) (g:=f) (w:=v) (c:=f v) n (λ_ _=>dW _) hv (by omega);omega
theorem Oa{f g:Nat->Nat}{w c:Nat}:∀n,(∀v,v<n->v≠w->f v=g v)->w<n->f w+c=g w->tot n f+c=tot n g|0,_,h,_=>by omega|n+1,h,d,a=>by by_cases e:w=n;{subst e;have:=N9 w (λv hv=>h v (by omega) (by omega));simp only[tot];omega};have:=Oa n (λv hv=>h v (by omega)) (by omega) a;have:=h n (by omega) (λb=>e b.symm);simp only[tot];omega
def cnt(n:Nat)(N:Nat->List Nat)(O:List Nat)(w:Nat):Nat:=tot n λu=>if u∈O then 0 else(N u).count w
structure OI(n:Nat)(N:Nat->List Nat)(O R:List Nat)(rest:List Nat)(c:Nat->Nat):Prop where
 cn:∀w,w<n->c w=cnt n N O w+rest.count w
 nd:(O++R).Nodup
 mem:∀v,v∈O++R↔v<n/\c v=0
 ord:∀i(h:i<O.length)a,a<n->O[i]∈N a->a∈O.take i
section
variable{n:Nat}{N:Nat->List Nat}{O R:List Nat}{c:Nat->Nat}
theorem c4N{l:List Nat}{a:Nat}(h:a∈l):0<l.count a:=List.count_pos_iff.2 h
theorem OI.pop{v:Nat}{d:List Nat}(h:OI n N O R [] c)(hp:R.Perm (v::d)):v<n/\OI n N (O++[v]) d (N v) c:=by
 have o:v∈R:=hp.mem_iff.2 (by simp);obtain⟨hv,p⟩:=(h.mem v).1 (by simp[o]);have k:(O++R).Perm ((O++[v])++d):=by rw[bh];exact hp.append_left O
 have g:=k.nodup_iff.1 h.nd;have q:v∉O:=by intro b;rw[bh]at g;exact(dX.1 g).2.2 v b v (by simp) rfl
 refine⟨hv,?_,g,λu=>by rw[<-k.mem_iff];exact h.mem u,?_⟩;{intro w m;rw[h.cn w m,List.count_nil,dO];symm;refine Oa (w:=v) n ?_ hv ?_;{intro u _ r;simp[r]};simp[q]}
 intro i hi a j b;by_cases e:i<O.length;{rw[eW e]at b;rw[eK (by omega)];exact h.ord i e a j b}
 have:i=O.length:=by simp at hi;omega
 subst this;simp at b;rw[eJ];{by_cases hx:a∈O;{exact hx};exfalso;have l:=h.cn v hv;rw[p,List.count_nil]at l;have h2:=c85 (n:=n) (v:=a) (f:=λu=>if u∈O then 0 else(N u).count v) (by unfold cnt at l;omega) j;simp only[hx,if_false]at h2;have:=c4N b;omega}
 rfl
theorem OI.dec{w:Nat}{r:List Nat}(h:OI n N O R (w::r) c)(b:w<n):0<c w/\(c w=1->OI n N O (w::R) r (fup c w (c w-1)))/\(c w≠1->OI n N O R r (fup c w (c w-1))):=by
 have m:=h.cn w b;rw[List.count_cons_self]at m;have j:0<c w:=by omega
 have d:∀x,x<n->fup c w (c w-1) x=cnt n N O x+r.count x:=by intro x k;by_cases e:x=w;{subst e;rw[Cq];omega};rw[CA _ _ e,h.cn x k,List.count_cons_of_ne (λi=>e i.symm)]
 have g:w∉O++R:=λl=>by have:=((h.mem w).1 l).2;omega
 refine⟨j,λf=>⟨d,?_,?_,h.ord⟩,λf=>⟨d,h.nd,?_,h.ord⟩⟩;{have a:(O++w::R).Perm (w::(O++R)):=List.perm_middle;exact a.nodup_iff.2 (d9.2 ⟨g,h.nd⟩)}
 {intro v;have a:(O++w::R).Perm (w::(O++R)):=List.perm_middle;rw[a.mem_iff,a8,h.mem];by_cases e:v=w;{subst e;rw[Cq];simp[b,f]};rw[CA _ _ e];simp[e]}
 intro v;rw[h.mem];by_cases e:v=w;{subst e;rw[Cq];constructor<;>intro o<;>omega}
 rw[CA _ _ e]
theorem OI.perm{a rest:List Nat}(h:OI n N O R rest c)(hp:a.Perm R):OI n N O a rest c:=⟨h.cn,(hp.append_left O).nodup_iff.2 h.nd,λv=>by rw[(hp.append_left O).mem_iff];exact h.mem v,h.ord⟩
theorem OI.lt{rest:List Nat}(h:OI n N O R rest c):∀v∈O++R,v<n:=λv hv=>((h.mem v).1 hv).1
end
theorem Is:∀(n:Nat)(O:List Nat),O.Nodup->(∀v∈O,v<n)->O.length<=n/\(O.length=n->∀v,v<n->v∈O)|0,O,_,b=>(by cases O with|nil=>simp|cons x O=>have:=b x (by simp);omega)|n+1,O,hn,b=>by(have g:∀v∈O.erase n,v<n:=by intro v hv;have:=b v (List.mem_of_mem_erase hv);have:v≠n:=(List.Nodup.mem_erase_iff hn|>.1 hv).1;omega);obtain⟨h2,d⟩:=Is n (O.erase n) (hn.erase n) g;have c:=List.length_erase (a:=n) (l:=O);by_cases hm:n∈O;{have:0<O.length:=List.length_pos_of_mem hm;rw[af hm]at c;refine⟨by omega,λf v hv=>?_⟩;by_cases e:v=n;{subst e;exact hm};exact List.mem_of_mem_erase (d (by omega) v (by omega))};rw[ah hm]at c;exact⟨by omega,λf=>by omega⟩
theorem Su:∀(n:Nat)(O:List Nat),(∀v,v<n->v∈O)->n<=O.length|0,_,_=>dW _|n+1,O,h=>by have b:=Su n (O.erase n) (λv hv=>(List.mem_erase_of_ne (by omega)).2 (h v (by omega)));have a:=h n (by omega);have h2:=List.length_erase_of_mem a;have:0<O.length:=List.length_pos_of_mem a;omega
theorem Oc:∀n,tot n (λ_=>0)=0|0=>rfl|n+1=>by rw[tot,Oc n]
section
variable{n:Nat}{N:Nat->List Nat}{O:List Nat}{c:Nat->Nat}
theorem OI.no_topo(h:OI n N O [] [] c)(q:O.length<n)(f:Nat->Nat)(hf:Sn n N f):False:=by(have o:∃v,v<n/\v∉O:=by apply dZ;intro g;have m:∀v,v<n->v∈O:=λv hv=>dZ λi=>g ⟨v,hv,i⟩;have:=Su n O m;omega);(have a:∀k v,v<n->v∉O->f v=k->False:=by intro k;induction k using Nat.strongRecOn with|_ k l=>intro v hv b p;(have j:c v=0:=by rw[h.cn v hv,List.count_nil,dO];(have:cnt n N O v=tot n λ_=>0:=by refine N9 n λu d=>?_;by_cases hm:u∈O;{simp[hm]};simp only[hm,if_false];refine List.count_eq_zero.2 λe=>?_;have:=hf u d v e;exact l (f u) (by omega) u d hm rfl);rw[this,Oc]);have:=(h.mem v).2 ⟨hv,j⟩;rw[cg]at this;exact b this);obtain⟨v,hv,b⟩:=o;exact a _ v hv b rfl
theorem OI.order(h:OI n N O [] [] c)(e:¬O.length<n):O.length=n/\O.Nodup/\(∀v,v∈O↔v<n)/\∀i(h:i<O.length)a,a<n->O[i]∈N a->a∈O.take i:=by have b:=h.nd;rw[cg]at b;have d:∀v∈O,v<n:=λv hv=>h.lt v (by simp[hv]);obtain⟨f,h2⟩:=Is n O b d;exact⟨by omega,b,λv=>⟨d v,h2 (by omega) v⟩,h.ord⟩
theorem WT{O:List Nat}(hn:∀v,v<n->∀w∈N v,w<n)(c:O.Nodup)(g:∀v,v∈O↔v<n)(ho:∀i(h:i<O.length)a,a<n->O[i]∈N a->a∈O.take i):Sn n N λv=>O.idxOf v:=by intro u d w b;have f:=(g w).2 (hn u d w b);obtain⟨i,hi,rfl⟩:=cd.1 f;have k:=ho i hi u d b;obtain⟨j,e,rfl⟩:=cd.1 k;rw[dN];rw[co]at e;show O.idxOf O[j]<O.idxOf O[i];rw[c.idxOf_getElem,c.idxOf_getElem];omega
end
end PI.Sc
