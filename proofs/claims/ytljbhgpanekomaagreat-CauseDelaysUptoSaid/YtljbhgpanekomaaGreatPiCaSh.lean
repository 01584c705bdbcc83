import Derived.Test.YtljbhgpanekomaaGreatPiClose
import Derived.Test.YtljbhgpanekomaaGreatPiCaSpec
set_option maxRecDepth 100000
set_option linter.unusedVariables false
namespace PI.Sc
open Go (IntKind BinOp UnOp)
def D:Nat→TyD
 | 0 => .str
 | 1 => .int .i64
 | 2 => .slice 0 16
 | 3 => .struct [0,2]
 | 4 => .slice 3 40
 | 5 => .struct [0,1,1]
 | 6 => .slice 5 32
 | 7 => .struct [0,1,6]
 | 8 => .slice 7 48
 | 9 => .struct [1,1,1,1,0,10]
 | 10 => .slice 9 72
 | 11 => .struct [2,9]
 | 12 => .slice 11 96
 | 13 => .bool
 | 14 => .struct [9,1,13]
 | 15 => .slice 14 88
 | 16 => .struct [0,8,12,18,15,15]
 | 17 => .struct [19]
 | 18 => .slice 17 24
 | 19 => .slice 16 136
 | 20 => .struct [0,8,8,8,12,18,10,10]
 | 21 => .slice 20 184
 | 22 => .struct [4,21]
 | _ => .int .u8
theorem all_map {α:Type} {f:α→PV} {G:α→Prop}:∀es:List PV,(∀x∈es,∃y,x=f y∧G y)→∃l:List α,es=l.map f∧∀x∈l,G x
 | [],_=>⟨[],rfl,by simp⟩
 | x :: xs, h => by
   obtain⟨y,rfl,hy⟩:=h x (b8 ..)
   obtain⟨l,rfl,hl⟩:=all_map xs (λy hy=>h y (bx _ hy))
   refine⟨y::l,rfl,?_⟩
   intro z hz
   rcases aC.1 hz with rfl|hz
   ·exact hy
   ·exact hl z hz
theorem AS {α:Type} {f:α→PV} {G:α→Prop} {i e b:Nat} (he:∀p,Sh D e p→∃x,p=f x∧G x) (hD:D i = .slice e b) (hb:0<b) (p:PV) (h:Sh D i p):∃l:List α,p = .list false (l.map f)∧l.length≤140737488351232∧∀x∈l,G x:=by
 obtain⟨es,rfl,_,hl,hs⟩:=Sh.inv_slice hD h
 obtain⟨l,rfl,h1⟩:=all_map es λx hx=>he x (hs x hx)
 rw[aA] at hl
 exact⟨l,rfl,aR (Nat.le_mul_of_pos_right _ hb) hl,h1⟩
theorem Dy (p:PV) (h:Sh D 0 p):∃s,p = .str s∧s.length≤9223372036854775807:=by
 obtain⟨s,rfl,hl⟩:=Sh.inv_str (D:=D) rfl h
 exact⟨s,rfl,hl⟩
theorem CY (p:PV) (h:Sh D 1 p):∃n,p = .int .i64 n∧AB n:=by
 obtain⟨n,rfl,h1,h2⟩:=Sh.inv_int (D:=D) (k := .i64) rfl h
 exact⟨n,rfl,h1,h2⟩
theorem c7a (p:PV) (h:Sh D 13 p):∃b,p = .bool b:=by
 cases h with
 | bool _ b _=>exact⟨b,rfl⟩
 | int _ _ _ h=>cases h
 | str _ _ h=>cases h
 | slice _ _ _ _ h=>cases h
 | struct _ _ _ h=>cases h
theorem OW (p:PV) (h:Sh D 2 p):∃l:List Str,p = .list false (l.map .str)∧l.length≤140737488351232:=by
 obtain⟨l,e,hl,_⟩:=AS Dy rfl (by decide) p h
 exact⟨l,e,hl⟩
theorem c7b (p:PV) (h:Sh D 3 p):∃x:Enum,p=wA x∧x.tags.length≤140737488351232:=by
 obtain⟨ps,rfl,hq⟩:=Sh.inv_struct (D:=D) (fs:=[0,2]) rfl h
 match ps,hq with
 | [a, b], ⟨ha, hb, _⟩ =>
   obtain⟨s,rfl,_⟩:=Dy a ha
   obtain⟨l,rfl,hl⟩:=OW b hb
   exact⟨⟨s,l⟩,rfl,hl⟩
theorem d4u (p:PV) (h:Sh D 5 p):∃x:On,p=eOn x∧AB x.t:=by
 obtain⟨ps,rfl,hq⟩:=Sh.inv_struct (D:=D) (fs:=[0,1,1]) rfl h
 match ps,hq with
 | [a, b, c], ⟨ha, hb, hc, _⟩ =>
   obtain⟨s,rfl,_⟩:=Dy a ha
   obtain⟨n,rfl,hn⟩:=CY b hb
   obtain⟨m,rfl,_⟩:=CY c hc
   exact⟨⟨s,n,m⟩,rfl,hn⟩
theorem Hx (p:PV) (h:Sh D 7 p):∃x:Decl,p=wo x∧DF x:=by
 obtain⟨ps,rfl,hq⟩:=Sh.inv_struct (D:=D) (fs:=[0,1,6]) rfl h
 match ps,hq with
 | [a, b, c], ⟨ha, hb, hc, _⟩ =>
   obtain⟨s,rfl,hs⟩:=Dy a ha
   obtain⟨n,rfl,hn⟩:=CY b hb
   obtain⟨l,rfl,hl,ho⟩:=AS d4u rfl (by decide) c hc
   exact⟨⟨s,n,l⟩,rfl,⟨hn,by show l.length≤_; omega,hs,ho⟩⟩
theorem c4j:∀(i:Nat) (p:PV),Sh D i p→(i=9→∃x:Expr,p=wl x∧EW x)∧(i=10→∃l:List Expr,p = .list false (l.map wl)∧l.length≤140737488351232∧∀x∈l,EW x):=by
 intro i p h
 induction h with
 | bool i b h=>exact⟨λe=>(by subst e; cases h),λe=>(by subst e; cases h)⟩
 | int i k n h=>exact⟨λe=>(by subst e; cases h),λe=>(by subst e; cases h)⟩
 | str i s h=>exact⟨λe=>(by subst e; cases h),λe=>(by subst e; cases h)⟩
 | slice i e b es h hl hb hs ih =>
   refine⟨λe=>(by subst e; cases h),λhi =>?_⟩
   subst hi
   obtain⟨rfl,rfl⟩:e=9∧b=72:=by cases h; exact⟨rfl,rfl⟩
   obtain⟨l,rfl,h1⟩:=all_map (f:=wl) (G:=EW) es λx hx=>(ih x hx).1 rfl
   rw[aA] at hb
   exact⟨l,rfl,by omega,h1⟩
 | struct i fs ps h hl hs ih =>
   refine⟨λhi =>?_,λe=>(by subst e; cases h)⟩
   subst hi
   obtain rfl:fs=[1,1,1,1,0,10]:=by cases h; rfl
   match ps,hl with
   | [a, b, c, d, e, f], _ =>
     obtain⟨k,rfl,_⟩:=CY a (hs 0 1 a rfl rfl)
     obtain⟨o,rfl,_⟩:=CY b (hs 1 1 b rfl rfl)
     obtain⟨t,rfl,ht⟩:=CY c (hs 2 1 c rfl rfl)
     obtain⟨v,rfl,hv⟩:=CY d (hs 3 1 d rfl rfl)
     obtain⟨s,rfl,_⟩:=Dy e (hs 4 0 e rfl rfl)
     obtain⟨l,rfl,hl,hE⟩:=(ih 5 10 f rfl rfl).2 rfl
     refine⟨.mk k o t v s l,by rw[Ay]; rfl,?_⟩
     intro x hx
     rw[Expr.list_eq] at hx
     rcases aC.1 hx with rfl|hx
     ·exact⟨ht,hv,by show l.length≤_; omega⟩
     ·obtain⟨y,hy,jK⟩:=bM.1 hx
      exact hE y hy x jK
theorem Hy (p:PV) (h:Sh D 9 p):∃x:Expr,p=wl x∧EW x:=(c4j 9 p h).1 rfl
theorem OX (p:PV) (h:Sh D 11 p):∃x:Eqn,p=wX x∧QF x:=by
 obtain⟨ps,rfl,hq⟩:=Sh.inv_struct (D:=D) (fs:=[2,9]) rfl h
 match ps,hq with
 | [a, b], ⟨ha, hb, _⟩ =>
   obtain⟨l,rfl,hl⟩:=OW a ha
   obtain⟨x,rfl,hx⟩:=Hy b hb
   exact⟨⟨l,x⟩,by rw[D4]; simp[-J1],⟨by show l.length≤_; omega,hx⟩⟩
theorem OY (p:PV) (h:Sh D 14 p):∃x:Trn,p=xn x∧EW x.cond:=by
 obtain⟨ps,rfl,hq⟩:=Sh.inv_struct (D:=D) (fs:=[9,1,13]) rfl h
 match ps,hq with
 | [a, b, c], ⟨ha, hb, hc, _⟩ =>
   obtain⟨x,rfl,hx⟩:=Hy a ha
   obtain⟨n,rfl,_⟩:=CY b hb
   obtain⟨r,rfl⟩:=c7a c hc
   exact⟨⟨x,n,r⟩,by rw[Fv]; simp[-J2],hx⟩
theorem c15:∀(i:Nat) (p:PV),Sh D i p→(i=16→∃x:State,p=wQ x∧SF x)∧(i=19→∃l:List State,p = .list false (l.map wQ)∧l.length≤140737488351232∧∀x∈l,SF x) ∧
  (i=17→∃a:zB,p=wY a∧(a.length≤140737488351232∧∀x∈a,SF x))∧(i=18→∃l:List zB,p = .list false (l.map wY)∧AsF l):=by
 intro i p h
 induction h with
 | bool i b h=>exact⟨λe=>(by subst e; cases h),λe=>(by subst e; cases h),λe=>(by subst e; cases h),λe=>(by subst e; cases h)⟩
 | int i k n h=>exact⟨λe=>(by subst e; cases h),λe=>(by subst e; cases h),λe=>(by subst e; cases h),λe=>(by subst e; cases h)⟩
 | str i s h=>exact⟨λe=>(by subst e; cases h),λe=>(by subst e; cases h),λe=>(by subst e; cases h),λe=>(by subst e; cases h)⟩
 | slice i e b es h hl hb hs ih =>
   refine⟨λe=>(by subst e; cases h),λhi =>?_,λe=>(by subst e; cases h),λhi =>?_⟩
   ·subst hi
    obtain⟨rfl,rfl⟩:e=16∧b=136:=by cases h; exact⟨rfl,rfl⟩
    obtain⟨l,rfl,h1⟩:=all_map (f:=wQ) (G:=SF) es λx hx=>(ih x hx).1 rfl
    rw[aA] at hb
    exact⟨l,rfl,by omega,h1⟩
   ·subst hi
    obtain⟨rfl,rfl⟩:e=17∧b=24:=by cases h; exact⟨rfl,rfl⟩
    obtain⟨l,rfl,h1⟩:=all_map (f:=wY) (G:=λa=>a.length≤140737488351232∧∀x∈a,SF x) es λx hx=>(ih x hx).2.2.1 rfl
    rw[aA] at hb
    exact⟨l,rfl,⟨by omega,λa ha=>by have:=(h1 a ha).1; omega,λa ha=>(h1 a ha).2⟩⟩
 | struct i fs ps h hl hs ih =>
   refine⟨λhi =>?_,λe=>(by subst e; cases h),λhi =>?_,λe=>(by subst e; cases h)⟩
   ·subst hi
    obtain rfl:fs=[0,8,12,18,15,15]:=by cases h; rfl
    match ps,hl with
    | [a, b, c, d, e, f], _ =>
      obtain⟨n,rfl,_⟩:=Dy a (hs 0 0 a rfl rfl)
      obtain⟨l,rfl,h1,h2⟩:=AS Hx rfl (by decide) b (hs 1 8 b rfl rfl)
      obtain⟨q,rfl,h3,h4⟩:=AS OX rfl (by decide) c (hs 2 12 c rfl rfl)
      obtain⟨au,rfl,h5⟩:=(ih 3 18 d rfl rfl).2.2.2 rfl
      obtain⟨u,rfl,h6,h7⟩:=AS OY rfl (by decide) e (hs 4 15 e rfl rfl)
      obtain⟨w,rfl,h8,h9⟩:=AS OY rfl (by decide) f (hs 5 15 f rfl rfl)
      exact⟨.mk n l q au u w,by rw[Bv]; rfl,.mk _ (by show l.length≤_; omega) h2 (by show q.length≤_; omega) h4 (by show u.length≤_; omega) h7 (by show w.length≤_; omega) h9 h5.len h5.as h5.ss⟩
   ·subst hi
    obtain rfl:fs=[19]:=by cases h; rfl
    match ps,hl with
    | [a], _ =>
      obtain⟨l,rfl,h1,h2⟩:=(ih 0 19 a rfl rfl).2.1 rfl
      exact⟨l,rfl,h1,h2⟩
theorem c7c (p:PV) (h:Sh D 20 p):∃x:Node,p=wE x∧NF x:=by
 obtain⟨ps,rfl,hq⟩:=Sh.inv_struct (D:=D) (fs:=[0,8,8,8,12,18,10,10]) rfl h
 match ps,hq with
 | [a, b, c, d, e, f, g, k], ⟨ha, hb, hc, hd, he, hf, hg, hk, _⟩ =>
   obtain⟨n,rfl,_⟩:=Dy a ha
   obtain⟨i,rfl,i1,i2⟩:=AS Hx rfl (by decide) b hb
   obtain⟨o,rfl,o1,o2⟩:=AS Hx rfl (by decide) c hc
   obtain⟨l,rfl,l1,l2⟩:=AS Hx rfl (by decide) d hd
   obtain⟨q,rfl,q1,q2⟩:=AS OX rfl (by decide) e he
   obtain⟨au,rfl,a1⟩:=(c15 18 f hf).2.2.2 rfl
   obtain⟨s,rfl,s1,s2⟩:=AS Hy rfl (by decide) g hg
   obtain⟨r,rfl,r1,r2⟩:=AS Hy rfl (by decide) k hk
   exact⟨⟨n,i,o,l,q,au,s,r⟩,rfl,⟨by show i.length≤_; omega,i2,by show o.length≤_; omega,o2,by show l.length≤_; omega,l2,by show q.length≤_; omega,q2,a1,by show s.length≤_; omega,s2,by show r.length≤_; omega,r2⟩⟩
theorem c7d (p:PV) (h:Sh D 22 p):∃x:Prog,p=xw x∧PF x:=by
 obtain⟨ps,rfl,hq⟩:=Sh.inv_struct (D:=D) (fs:=[4,21]) rfl h
 match ps,hq with
 | [a, b], ⟨ha, hb, _⟩ =>
   obtain⟨e,rfl,e1,e2⟩:=AS c7b rfl (by decide) a ha
   obtain⟨n,rfl,n1,n2⟩:=AS c7c rfl (by decide) b hb
   exact⟨⟨e,n⟩,rfl,⟨by show e.length≤_; omega,λu hu=>by have:=e2 u hu; omega,by show n.length≤_; omega,n2⟩⟩
theorem d4v (p:PV) (h:Sh D 23 p):∃n:Nat,p = .int .u8 n∧n<256:=by
 obtain⟨n,rfl,h1,h2⟩:=Sh.inv_int (D:=D) (k := .u8) rfl h
 simp[IntKind.min,IntKind.max,IntKind.bits,IntKind.signed] at h1 h2
 exact⟨n.toNat,by congr 1; omega,by omega⟩
theorem DF.dw {d:Decl} (h:DF d) (hp:d.parts≤1100000):DW d:=⟨h.type,by unfold Decl.parts at hp; omega,h.on⟩
theorem QF.qw {q:Eqn} (h:QF q) (hp:q.parts≤1100000):QW q:=⟨by unfold Eqn.parts at hp; omega,⟨by unfold Eqn.parts at hp; omega,h.right⟩⟩
theorem A6 {α:Type} (f:α→Nat) (h1:∀x,1≤f x) {l:List α} (h:wx f l≤1100000):l.length≤1100000∧∀x∈l,f x≤1100000:=
 ⟨aR (Hp f h1 l) h,λx hx=>aR (Ci f hx) h⟩
theorem Hz (d:Decl):1≤d.parts:=by unfold Decl.parts; omega
theorem OZ (q:Eqn):1≤q.parts:=by unfold Eqn.parts; omega
theorem O0 (t:Trn):1≤t.parts:=by unfold Trn.parts; omega
theorem d01 (s:State):1≤s.parts:=by cases s; simp only[State.parts]; omega
theorem O1 {l:List (List State)} (h:Al l≤1100000):l.length≤1100000∧(∀a∈l,a.length≤1100000)∧∀a∈l,∀x∈a,x.parts≤1100000:=by
 rw[E0] at h
 obtain⟨h1,h2⟩:=A6 (λa:List State=>1+wx State.parts a) (λa=>by omega) h
 refine⟨h1,λa ha =>?_,λa ha x hx =>?_⟩
 ·have:1+wx State.parts a≤1100000:=h2 a ha
  have h3:=Hp State.parts d01 a
  omega
 ·have:1+wx State.parts a≤1100000:=h2 a ha
  have h3:=Ci State.parts hx
  omega
theorem SF.sw {s:State} (h:SF s) (hp:s.parts≤1100000):SW s:=by
 induction s using State.ind with
 | h s ih =>
   have e:=State.parts_eq s
   obtain⟨a1,a2⟩:=A6 Decl.parts Hz (l:=s.locals) (by omega)
   obtain⟨b1,b2⟩:=A6 Eqn.parts OZ (l:=s.eqs) (by omega)
   obtain⟨c1,c2⟩:=A6 Trn.parts O0 (l:=s.unl) (by omega)
   obtain⟨d1,d2⟩:=A6 Trn.parts O0 (l:=s.til) (by omega)
   obtain⟨e1,e2,e3⟩:=O1 (l:=s.autos) (by omega)
   exact .mk s a1 (λd hd=>(h.ls d hd).dw (a2 d hd)) b1 (λq hq=>(h.es q hq).qw (b2 q hq)) c1 (λt ht=>⟨by have:=c2 t ht; unfold Trn.parts at this; omega,h.us t ht⟩) d1 (λt ht=>⟨by have:=d2 t ht; unfold Trn.parts at this; omega,h.ts t ht⟩) e1 e2 (λa ha x hx=>ih a ha x hx (h.ss a ha x hx) (e3 a ha x hx))
theorem NF.nw {n:Node} (h:NF n) (hp:n.parts≤1100000):NW n:=by
 have e:n.parts=1+wx Decl.parts n.ins+wx Decl.parts n.outs+wx Decl.parts n.locals+wx Eqn.parts n.eqs+wx (λe=>1+Expr.parts e) n.assume+wx (λe=>1+Expr.parts e) n.ensure+Al n.autos:=rfl
 obtain⟨a1,a2⟩:=A6 Decl.parts Hz (l:=n.ins) (by omega)
 obtain⟨b1,b2⟩:=A6 Decl.parts Hz (l:=n.outs) (by omega)
 obtain⟨c1,c2⟩:=A6 Decl.parts Hz (l:=n.locals) (by omega)
 obtain⟨d1,d2⟩:=A6 Eqn.parts OZ (l:=n.eqs) (by omega)
 obtain⟨f1,f2⟩:=A6 (λe=>1+Expr.parts e) (λx=>by omega) (l:=n.assume) (by omega)
 obtain⟨g1,g2⟩:=A6 (λe=>1+Expr.parts e) (λx=>by omega) (l:=n.ensure) (by omega)
 obtain⟨e1,e2,e3⟩:=O1 (l:=n.autos) (by omega)
 exact⟨a1,λd hd=>(h.is d hd).dw (a2 d hd),b1,λd hd=>(h.os d hd).dw (b2 d hd),c1,λd hd=>(h.ls d hd).dw (c2 d hd),d1,λq hq=>(h.es q hq).qw (d2 q hq),⟨e1,e2,λa ha x hx=>(h.autos.ss a ha x hx).sw (e3 a ha x hx)⟩,
  f1,λx hx=>⟨by have:1+x.parts≤1100000:=f2 x hx; omega,h.as x hx⟩,g1,λx hx=>⟨by have:1+x.parts≤1100000:=g2 x hx; omega,h.gs x hx⟩⟩
theorem PF.pw {p:Prog} (h:PF p) (hs:parts p≤1100000):PW p:=by
 have jf:=hs
 unfold parts at hs
 obtain⟨a1,a2⟩:=A6 Enum.parts (λu=>by unfold Enum.parts; omega) (l:=p.enums) (by omega)
 obtain⟨b1,b2⟩:=A6 Node.parts (λu=>by unfold Node.parts; omega) (l:=p.nodes) (by omega)
 exact⟨a1,λu hu=>by have:=a2 u hu; unfold Enum.parts at this; omega,b1,λn hn=>(h.ns n hn).nw (b2 n hn)⟩
theorem AT {α:Type} (g:α→PV) (f:α→Nat) (h:∀x,f x≤wt (g x)):∀l:List α,wx f l≤wts (l.map g)
 | []=>ao _
 | x :: l => by
   have:=h x
   have:=AT g f h l
   simp only[wx,ax,wts]; omega
theorem HA {α:Type} (g:α→PV) (f:α→Nat):∀l:List α,(∀x∈l,f x≤wt (g x))→wx f l≤wts (l.map g)
 | [],_=>ao _
 | x :: l, h => by
   have:=h x (by simp)
   have:=HA g f l (λy hy=>h y (by simp[hy]))
   simp only[wx,ax,wts]; omega
theorem HB {α:Type} (g:α→PV) (h:∀x,1≤wt (g x)):∀l:List α,l.length≤wts (l.map g)
 | []=>ao _
 | x :: l => by
   have:=h x
   have:=HB g h l
   simp only[aI,ax,wts]; omega
theorem Kz (p:PV):1≤wt p:=by cases p<;>simp[wt]
theorem KA (e:Expr):e.parts+1≤wt (wl e):=by
 induction e using Expr.ind with
 | h e ih =>
   have h1:=HA wl Expr.parts e.args (λx hx=>by have:=ih x hx; omega)
   rw[parts_eq,Ay]
   simp only[wt,wts]
   omega
theorem HC (d:Decl):d.parts≤wt (wo d):=by
 have h1:=HB eOn (λx=>Kz _) d.clock
 unfold Decl.parts wo
 simp only[wt,wts]
 omega
theorem c7e (u:Enum):u.parts≤wt (wA u):=by
 have h1:=HB PV.str (λx=>Kz _) u.tags
 unfold Enum.parts wA
 simp only[wt,wts]
 omega
theorem O2 (e:Expr):e.parts≤1+wts (e.args.map wl):=by
 have h1:=AT wl Expr.parts (λx=>by have:=KA x; omega) e.args
 rw[parts_eq]; omega
theorem O3 (q:Eqn):q.parts≤wt (wX q):=by
 have h1:=HB PV.str (λx=>Kz _) q.left
 have h2:=O2 q.right
 unfold Eqn.parts
 rw[D4]
 simp only[wt,wts]
 omega
theorem O4 (t:Trn):t.parts≤wt (xn t):=by
 have h2:=O2 t.cond
 unfold Trn.parts
 rw[Fv]
 simp only[wt,wts]
 omega
theorem O5 (l:List (List State)) (h:∀a∈l,∀x∈a,x.parts≤wt (wQ x)):Al l≤wts (l.map wY):=by
 rw[E0]
 refine HA wY _ l λa ha =>?_
 have h1:=HA wQ State.parts a (h a ha)
 unfold wY
 simp only[wt,wts]
 omega
theorem c4k (s:State):s.parts≤wt (wQ s):=by
 induction s using State.ind with
 | h s ih =>
   have h1:=AT wo Decl.parts HC s.locals
   have h2:=AT wX Eqn.parts O3 s.eqs
   have h3:=AT xn Trn.parts O4 s.unl
   have h4:=AT xn Trn.parts O4 s.til
   have h5:=O5 s.autos ih
   rw[State.parts_eq,Bv]
   simp only[wt,wts]
   omega
theorem c7f (n:Node):n.parts≤wt (wE n):=by
 have h1:=AT wo Decl.parts HC n.ins
 have h2:=AT wo Decl.parts HC n.outs
 have h3:=AT wo Decl.parts HC n.locals
 have h4:=AT wX Eqn.parts O3 n.eqs
 have h5:=O5 n.autos (λ_ _ x _=>c4k x)
 have h6:=AT wl (λe=>1+Expr.parts e) (λx=>by have:=KA x; omega) n.assume
 have h7:=AT wl (λe=>1+Expr.parts e) (λx=>by have:=KA x; omega) n.ensure
 unfold Node.parts
 rw[J4]
 simp only[wt,wts]
 omega
theorem c7g (p:Prog):parts p≤wt (xw p):=by
 have h1:=AT wA Enum.parts c7e p.enums
 have h2:=AT wE Node.parts c7f p.nodes
 unfold parts
 rw[J5]
 simp only[wt,wts]
 omega
end PI.Sc
