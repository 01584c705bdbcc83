/-
  Blocks that nobody tells of may turn: deferred calls, iterators.
-/
import Derived.Test.YtmfkoljiknjcmaaGreatDoorPiOrd2
set_option linter.constructorNameAsVariable false
set_option linter.unusedSimpArgs false
set_option linter.unusedVariables false
set_option linter.unusedSectionVars false
namespace PI
open Go Go.RowKit
section
variable {N:Nm}
def inert:Obj->Bool|.deferred _|.mapIter ..=>true|_=>false
theorem letsOut_then{K:Act->World->Prop}{Q:Exit->Act->World->Prop}(h:¬LetsOut Q):¬LetsOut (Exit.then K Q):=fun⟨a,w,b⟩=>h ⟨a,w,b⟩
theorem letsOut_block{id:Nat}{Q:Exit->Act->World->Prop}(h:¬LetsOut Q):¬LetsOut (Exit.inBlock id Q):=fun⟨a,w,b⟩=>h ⟨a,w,b⟩
structure DefW(w w':World):Prop where
 os:w'.os=w.os
 tape:w'.tape=w.tape
 output:w'.output=w.output
 size:w'.heap.size=w.heap.size
 heap:∀b:Nat,w'.heap[b]?=w.heap[b]?\/((∃x,inert x=true/\w.heap[b]?=some x)/\∃y,inert y=true/\w'.heap[b]?=some y)
theorem DefW.refl(w:World):DefW w w:=⟨rfl,rfl,rfl,rfl,λ_=>.inl rfl⟩
theorem DefW.get{w w':World}(h:DefW w w'){b:Nat}{ob:Obj}(a:w.heap[b]?=some ob)(c:inert ob=false):w'.heap[b]?=some ob:=by rcases h.heap b with e|⟨⟨x,i,e⟩,_⟩;{rw[e];exact a};rw[a]at e;cases e;rw[c]at i;cases i
theorem DefW.cell{w w':World}(h:DefW w w')(b o:Nat):w'.cell? ⟨b,o,none⟩=w.cell? ⟨b,o,none⟩:=by rcases h.heap b with e|⟨⟨x,i1,c⟩,y,a,e2⟩;{simp only[World.cell?,e]};simp only[World.cell?,c,e2];cases x<;>simp[inert]at i1<;>cases y<;>simp[inert]at a<;>rfl
theorem DefW.shape{w w':World}(h:DefW w w'):ShapeLe w w':=by refine⟨?_,?_⟩;{intro b s a;rcases h.heap b with e|⟨⟨x,i1,c⟩,y,d,e2⟩;{unfold World.shape? at a⊢;rw[e];exact a};cases x<;>simp[inert]at i1<;>simp[World.shape?,c]at a};intro b s a;rcases h.heap b with e|⟨⟨x,i1,c⟩,y,d,e2⟩;{unfold loopOf at a⊢;rw[e];exact a};cases x<;>simp[inert]at i1<;>simp[loopOf,c]at a
theorem VR.def'{w w':World}{G:GS}{v:Value}{p:PV}(h:VR N w G.fix G.heap v p)(d:DefW w w'):VR N w' G.fix G.heap v p:=h.mono (λb o hf=>⟨hf,d.cell b o⟩) (λ_ _ h=>h) d.shape
theorem Room.def'{w w':World}{G:GS}{key:Key}{v:Value}{es:List PV}(h:Room w G key v es)(d:DefW w w'):Room w' G key v es:=by unfold Room at*;split at h;{rcases h with h|⟨g,sz,c,T,h2,⟨b,e,a⟩,f⟩;{exact .inl h};exact .inr ⟨g,sz,c,T,h2,⟨b,d.get e rfl,a⟩,f⟩};trivial
theorem CR.def'{w w':World}{G:GS}{key:Key}{v:Value}{p:PV}(h:CR N w G key v p)(d:DefW w w'):CR N w' G key v p:=by obtain⟨b,h2,a⟩:=h;refine⟨b.def' d,h2,?_⟩;split at a;{exact Room.def' a d};trivial
theorem MR.def'{w w':World}{G:GS}{key:Key}{v:Value}{p:PV}(h:MR N w G key v p)(d:DefW w w'):MR N w' G key v p:=by obtain⟨b,a⟩:=h;refine⟨b.def' d,?_⟩;split at a;{exact Room.def' a d};trivial
theorem SR.def'{w w':World}{G:GS}{key:Key}{v:Value}{p:PV}(h:SR N w G key v p)(d:DefW w w'):SR N w' G key v p:=by unfold SR at*;split at h;{trivial};{obtain⟨b,i,a,hv,o,l,hf,j,T,m,h2,e⟩:=h;exact⟨b,i,a,hv,o,l,hf,j,T,d.get m rfl,h2,λk c x g f=>(e k c x g f).def' d⟩};{exact h};{obtain⟨b,hv,l,hf,j,T,m,h2,n,e⟩:=h;exact⟨b,hv,l,hf,j,T,d.get m rfl,h2,n,λk c x g f=>⟨(e k c x g f).1.def' d,(e k c x g f).2⟩⟩};{exact⟨h.1.def' d,Room.def' h.2 d⟩};exact h.def' d
theorem ObjR.def'{w w':World}{G:GS}{n b:Nat}{ob:PObj}(h:ObjR N w G n b ob)(d:DefW w w'):ObjR N w' G n b ob:=by cases ob with|cells M=>obtain⟨f,C,T,j,e,l⟩:=h;exact⟨f,C,T,d.get j rfl,e,λk c x I F=>(l k c x I F).def' d⟩|map P=>obtain⟨m,a,j,e,l,A,u⟩:=h;exact⟨m,a,d.get j rfl,e,l,A,λi y p z t=>⟨(u i y p z t).1.def' d,(u i y p z t).2.def' d⟩⟩|bld O=>obtain⟨f,p,v,j,e,l⟩:=h;refine⟨f,p,v,d.get j rfl,e,?_⟩;rcases l with l|⟨g,cap,q,D,B,J,L,K⟩;{exact .inl l};exact .inr ⟨g,cap,q,D,B,J,d.get L rfl,K⟩|siter s H=>obtain⟨f,E,j,e⟩:=h;exact⟨f,E,d.get j rfl,e⟩|gone=>trivial|sblob=>obtain⟨m,a,j,e⟩:=h;exact⟨m,a,d.get j rfl,e⟩|loop o=>obtain⟨f,r,j,e⟩:=h;exact⟨f,r,d.get j rfl,e⟩|over id=>obtain⟨f,r,j,e⟩:=h;exact⟨f,r,d.get j rfl,e⟩
theorem BI.def'{w w':World}{G:GS}{st:St}{a:Act}{vs:List Tmp}{nt:Nat}(h:BI N w G st a vs nt)(d:DefW w w'):BI N w' G st a vs nt:=by obtain⟨hf,hs⟩:=h;refine⟨⟨hf.len,λi t u c h2=>(hf.var i t u c h2).def' d,λj t u c h2=>by simp at c,hf.tv,hf.tl,hf.defers,hf.gen,by rw[d.size];exact hf.owlt,by rw[d.size];exact hf.fixlt,⟨?_,?_⟩,hf.hdom⟩,hs⟩;{intro n k e;rcases hf.heap.1 n k e with h|⟨b,c,h2,g⟩;{exact .inl h};exact .inr ⟨b,c,h2,g.def' d⟩};refine⟨λt f=>⟨(hf.heap.2.1 t f).1,?_⟩,λr hr=>d.shape.1 _ _ (hf.heap.2.2 r hr)⟩;rw[d.cell];exact(hf.heap.2.1 t f).2
end
end PI
