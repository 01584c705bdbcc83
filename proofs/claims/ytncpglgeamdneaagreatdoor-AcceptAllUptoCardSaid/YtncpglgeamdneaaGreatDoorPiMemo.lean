import Derived.Test.YtncpglgeamdneaaGreatDoorPiFunc
set_option linter.unusedSimpArgs false
set_option linter.unusedVariables false
set_option linter.unusedSectionVars false
namespace PI
variable {L:LsT}{f:PFunc}{k K:Nat}
abbrev GR:=Nat->Option (VsT->HsT->Option (PV×HsT))
variable {T:GR}
def ovr(L:LsT)(T:GR):LsT:=λk=>match L k,T k with|some f,some g=>some {f with prim:=some g}|o,_=>o
def TabOK(L:LsT)(T:GR)(K:Nat):Prop:=∀k f g,L k=some f->T k=some g->f.prim=none/\f.split=false/\f.code.isRound=false/\∀a h r,a.length=f.params->g (a.map dem) h=some r->Fe (CV L K) (Er L) f a h=some (dem r.1,r.2)
theorem Si (h:L k=none):ovr L T k=none:=by simp[ovr,h]
theorem Pq (h:L k=some f)(b:T k=none):ovr L T k=some f:=by simp[ovr,h,b]
theorem Sj {g}(h:L k=some f)(a:T k=some g):ovr L T k=some {f with prim:=some g}:=by simp[ovr,h,a]
theorem c5K (k:Nat):Iz (ovr L T) k=Iz L k:=by unfold Iz;cases h:L k with|none=>rw[Si h]|some f=>cases a:T k<;>simp_all[Pq,Sj]
theorem Yg :Er (ovr L T)=Er L:=by funext k c h;unfold Er;cases a:L k with|none=>rw[Si a]|some f=>cases b:T k<;>simp_all[Pq,Sj]
theorem d3l (e:TabOK L T K):∀(n:Nat)(c:PC)(st:St)(r),CV (ovr L T) n c st=some r->CV L (n+K) c st=some r:=by refine Yh K c5K ?_;intro n s;have m:∀c st r,CV L K c st=some r->CV L (n+K) c st=some r:=λc st r h=>IK (Nat.le_add_left ..) h;constructor;{intro k t h r a;cases b:L k with|none=>grind[DT,Si]|some f=>cases d:T k with|none=>simp[DT,Pq b d,Yg]at a;simp[DT];split at a<;>grind[IP,Lp,Yi]|some g=>obtain⟨p,u,l,i⟩:=e k f g b d;simp[DT,Sj b d]at a;split at a;{grind[Option.map_eq_some_iff,DT,Bool.false_eq_true,Lp]};unfold Ie at a;grind};intro k t h r a;cases b:L k with|none=>grind[Ek,Si]|some f=>cases d:T k with|none=>grind[Ek,Pq,Yg,Yj]|some g=>obtain⟨p,u,l,i⟩:=e k f g b d;simp only[Ek,Sj b d]at a;split at a;(next j=>obtain⟨q,o,rfl⟩:=ab.1 a;simp[Ek];have:=Lp m (i t h q j.1 o);simp_all[Fe,Pt]);cases a
theorem c6X (c:TabOK L T K){n:Nat}(a:L k=some f)(b:T k=none){g:VsT}{h:HsT}{r}(d:call (ovr L T) n k g h=some r):call L (n+K) k g h=some r:=by have e:=d3l c n;simp[call,DT,Pq a b,Yg]at d;simp[call,DT];grind[IP,Lp,Yi]
abbrev G7:=VsT×HsT×PV×HsT
variable {a:List G7}
def Hr(b:List G7)(a:VsT)(h:HsT):Option (PV×HsT):=(b.find? λe=>HZ e.1 a&&decide (e.2.1=h)).map (·.2.2)
theorem c5N(b:VsT):(b.map dem).map dem=b.map dem:=by induction b with|nil=>rfl|cons v b a=>simp[a];cases v<;>rfl
theorem d0J{c:PC->St->Option (PExit×St)}{dfr}(a:f.code.isRound=false){b:VsT}{h:HsT}:Fe c dfr f (b.map dem) h=Fe c dfr f b h:=by simp[Fe,a];unfold FZ;split;(next e=>rw[e]at a;cases a);rw[c5N]
theorem d6w (g:L k=some f)(o:f.prim=none)(s:f.split=false)(l:f.code.isRound=false)(d:∀e∈a,dem e.2.2.1=e.2.2.1/\∃n,n<=K/\call L n k e.1 e.2.1=some e.2.2):∀p h r,p.length=f.params->Hr a (p.map dem) h=some r->Fe (CV L K) (Er L) f p h=some (dem r.1,r.2):=by intro p h r j c;obtain⟨e,q,rfl⟩:=ab.1 c;have hb:=List.find?_some q;simp at hb;have m:=(Mz _ _).1 hb.1;obtain⟨hd,n,hn,b⟩:=d e (List.mem_of_find?_eq_some q);(have i:e.1.length=f.params:=by simp_all);simp[call,DT]at b;grind[Lp,IK,d0J]
theorem TabOK.nil :TabOK L (λ_=>none) 0:=λ_ _ _ _ h=>by cases h
theorem TabOK.add (l:TabOK L T K){n:Nat}(b:L k=some f)(u:T k=none)(m:f.prim=none)(B:f.split=false)(i:f.code.isRound=false)(w:∀e∈a,dem e.2.2.1=e.2.2.1/\call (ovr L T) n k e.1 e.2.1=some e.2.2):TabOK L (λj=>if j=k then some (Hr a)else T j) (n+K):=by intro j t g d A;have A:(if j=k then some _ else T j)=some g:=A;by_cases Ag:j=k;{subst Ag;rw[aj rfl]at A;cases A;rw[b]at d;cases d;refine⟨m,B,i,d6w b m B i (λe o=>?_)⟩;obtain⟨hd,s⟩:=w e o;exact⟨hd,_,ao _,c6X l b u s⟩};rw[ak Ag]at A;obtain⟨v,p,q,x⟩:=l j t g d A;exact⟨v,p,q,λC h r y z=>Lp (λc D r h=>IK (Nat.le_add_left ..) h) (by grind)⟩
end PI
