/-
  Calls whose results are known: a library in which some functions are tables runs as the library itself does.
-/
import Derived.Test.YtmfkoljiknjcmaaGreatDoorPiCodeT
set_option linter.constructorNameAsVariable false
set_option linter.unusedSimpArgs false
set_option linter.unusedVariables false
set_option linter.unusedSectionVars false
namespace PI
abbrev Tabl:=Nat->Option (List PV->List PObj->Option (PV×List PObj))
def ovr(L:Nat->Option PFunc)(T:Tabl):Nat->Option PFunc:=λk=>match L k,T k with|some f,some g=>some {f with prim:=some g}|o,_=>o
def TabOK(L:Nat->Option PFunc)(T:Tabl)(K:Nat):Prop:=∀k f g,L k=some f->T k=some g->f.prim=none/\f.split=false/\f.code.isRound=false/\∀a h r,a.length=f.params->g (a.map dem) h=some r->runFn (exec L K) (dfrOf L) f a h=some (dem r.1,r.2)
section
variable {L:Nat->Option PFunc}{T:Tabl}{K:Nat}
theorem ovr_none{k:Nat}(h:L k=none):ovr L T k=none:=by simp[ovr,h]
theorem ovr_same{k:Nat}{f:PFunc}(h:L k=some f)(a:T k=none):ovr L T k=some f:=by simp[ovr,h,a]
theorem ovr_tab{k:Nat}{f:PFunc}{g}(h:L k=some f)(a:T k=some g):ovr L T k=some {f with prim:=some g}:=by simp[ovr,h,a]
theorem ovr_noRound(k:Nat):noRound (ovr L T) k=noRound L k:=by unfold noRound;cases h:L k with|none=>rw[ovr_none h]|some f=>cases a:T k with|none=>rw[ovr_same h a]|some g=>rw[ovr_tab h a]
theorem ovr_dfr:dfrOf (ovr L T)=dfrOf L:=by funext k args h;unfold dfrOf;cases hk:L k with|none=>rw[ovr_none hk]|some f=>cases a:T k with|none=>rw[ovr_same hk a]|some g=>rw[ovr_tab hk a]
theorem exec_ovr(hT:TabOK L T K):∀(n:Nat)(c:PC)(st:St)(r),exec (ovr L T) n c st=some r->exec L (n+K) c st=some r:=by refine exec_sim K ovr_noRound ?_;intro n e;have o:∀c st r,exec L K c st=some r->exec L (n+K) c st=some r:=λc st r h=>exec_mono (Nat.le_add_left ..) h;constructor;{intro k b h r hr;cases hk:L k with|none=>simp[callWith,ovr_none hk]at hr|some f=>cases d:T k with|none=>simp only[callWith,ovr_same hk d,ovr_dfr]at hr;simp only[callWith,hk];split at hr;{rename_i a;rw[if_pos a];split at hr;{exact hr};split at hr;{rename_i hs;rw[agree_some]at hr;rw[if_pos hs,agree_some];exact⟨runFn_mono e hr.1,runFn_mono e hr.2⟩};rename_i hs;rw[if_neg hs];exact runFn_mono e hr};rename_i a;rw[if_neg a];exact ownWith_mono e hr|some g=>obtain⟨l,h2,m,i⟩:=hT k f g hk d;simp only[callWith,ovr_tab hk d]at hr;split at hr;{rename_i a;obtain⟨q,j,rfl⟩:=Option.map_eq_some_iff.1 hr;simp only[callWith,hk,if_pos a,l,h2,Bool.false_and,Bool.false_eq_true,if_false];exact runFn_mono o (i b h q a j)};unfold ownWith at hr;split at hr;{split at hr;{simp at hr};cases hr};cases hr};intro k b h r hr;cases hk:L k with|none=>simp[outWith,ovr_none hk]at hr|some f=>cases d:T k with|none=>simp only[outWith,ovr_same hk d,ovr_dfr]at hr;simp only[outWith,hk];split at hr;{rename_i a;rw[if_pos a];split at hr;{exact hr};exact runOut_mono e hr};cases hr|some g=>obtain⟨l,h2,m,i⟩:=hT k f g hk d;simp only[outWith,ovr_tab hk d]at hr;split at hr;{rename_i a;obtain⟨q,j,rfl⟩:=Option.map_eq_some_iff.1 hr;simp only[outWith,hk,if_pos a,l];have:=runFn_mono o (i b h q a.1 j);rw[runFn,m]at this;simp only[Bool.false_eq_true,if_false]at this;exact valOf_some.1 this};cases hr
theorem call_ovr(hT:TabOK L T K){n k:Nat}{f:PFunc}(hk:L k=some f)(c:T k=none){args:List PV}{h:List PObj}{r}(hr:call (ovr L T) n k args h=some r):call L (n+K) k args h=some r:=by have a:=exec_ovr hT n;simp only[call,callWith,ovr_same hk c,ovr_dfr]at hr;simp only[call,callWith,hk];split at hr;{rename_i b;rw[if_pos b];split at hr;{exact hr};split at hr;{rename_i hs;rw[agree_some]at hr;rw[if_pos hs,agree_some];exact⟨runFn_mono a hr.1,runFn_mono a hr.2⟩};rename_i hs;rw[if_neg hs];exact runFn_mono a hr};rename_i b;rw[if_neg b];exact ownWith_mono a hr
abbrev Rowt:=List PV×List PObj×PV×List PObj
def tabG(es:List Rowt)(args:List PV)(h:List PObj):Option (PV×List PObj):=(es.find? λe=>beqs e.1 args&&decide (e.2.1=h)).map (·.2.2)
theorem map_dem_dem(vs:List PV):(vs.map dem).map dem=vs.map dem:=by induction vs with|nil=>rfl|cons v vs a=>simp only[List.map_cons,a];cases v<;>rfl
theorem runFn_dem{ex:PC->St->Option (PExit×St)}{dfr}{f:PFunc}(hr:f.code.isRound=false){args:List PV}{h:List PObj}:runFn ex dfr f (args.map dem) h=runFn ex dfr f args h:=by simp only[runFn,hr,Bool.false_eq_true,if_false];congr 1;unfold runOut;split;{rename_i e;rw[e]at hr;cases hr};rw[map_dem_dem]
theorem tabG_ok{k:Nat}{f:PFunc}(hk:L k=some f)(s:f.prim=none)(h2:f.split=false)(l:f.code.isRound=false){es:List Rowt}(a:∀e∈es,dem e.2.2.1=e.2.2.1/\∃n,n<=K/\call L n k e.1 e.2.1=some e.2.2):∀args h r,args.length=f.params->tabG es (args.map dem) h=some r->runFn (exec L K) (dfrOf L) f args h=some (dem r.1,r.2):=by intro args h r p hr;unfold tabG at hr;obtain⟨e,g,rfl⟩:=Option.map_eq_some_iff.1 hr;have b:=List.find?_some g;have o:=List.mem_of_find?_eq_some g;simp only[Bool.and_eq_true,decide_eq_true_eq]at b;have i:e.1=args.map dem:=(beqs_iff _ _).1 b.1;obtain⟨q,n,m,j⟩:=a e o;(have d:e.1.length=f.params:=by rw[i,List.length_map];exact p);simp only[call,callWith,hk,if_pos d,s,h2,Bool.false_and,Bool.false_eq_true,if_false]at j;have:=runFn_mono (λc t r h=>exec_mono m h) j;rw[i,runFn_dem l,b.2]at this;rw[q];exact this
theorem TabOK.nil:TabOK L (λ_=>none) 0:=λ_ _ _ _ h=>by cases h
theorem TabOK.add(hT:TabOK L T K){n k:Nat}{f:PFunc}(hk:L k=some f)(x:T k=none)(m:f.prim=none)(h2:f.split=false)(l:f.code.isRound=false){es:List Rowt}(d:∀e∈es,dem e.2.2.1=e.2.2.1/\call (ovr L T) n k e.1 e.2.1=some e.2.2):TabOK L (λj=>if j=k then some (tabG es)else T j) (n+K):=by intro j v g i a;have a:(if j=k then some (tabG es)else T j)=some g:=a;by_cases hjk:j=k;{subst hjk;rw[if_pos rfl]at a;cases a;rw[hk]at i;cases i;refine⟨m,h2,l,tabG_ok hk m h2 l (λe p=>?_)⟩;obtain⟨w,u⟩:=d e p;exact⟨w,n+K,Nat.le_refl _,call_ovr hT hk x u⟩};rw[if_neg hjk]at a;obtain⟨y,q,t,o⟩:=hT j v g i a;exact⟨y,q,t,λb h r s hr=>runFn_mono (λc z r h=>exec_mono (Nat.le_add_left ..) h) (o b h r s hr)⟩
theorem row_of{n k:Nat}{args:List PV}{h:List PObj}{r:PV}(hr:(call L n k args h).map (·.1)=some r):call L n k args h=some (r,((call L n k args h).getD (.dead,[])).2):=by cases a:call L n k args h with|none=>rw[a]at hr;cases hr|some q=>rw[a]at hr;cases hr;rfl
end
end PI
