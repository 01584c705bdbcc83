import Derived.Test.YtljbhgpanekomaaGreatDoorPiClose
import Derived.Test.YtljbhgpanekomaaGreatDoorPiScLaw1
set_option maxRecDepth 100000
set_option linter.unusedVariables false
namespace PI.Sc
open Go (IntKind BinOp UnOp)
def D:Nat→TyD
 | 0 => .str
 | 1 => .int .i64
 | 2 => .slice 0 16
 | 3 => .struct [0,2]
 | 4 => .slice 3 40
 | 5 => .struct [0,1,1]
 | 6 => .slice 5 32
 | 7 => .struct [0,1,6]
 | 8 => .slice 7 48
 | 9 => .struct [1,1,1,1,0,10]
 | 10 => .slice 9 72
 | 11 => .struct [2,9]
 | 12 => .slice 11 96
 | 13 => .bool
 | 14 => .struct [9,1,13]
 | 15 => .slice 14 88
 | 16 => .struct [0,8,12,18,15,15]
 | 17 => .struct [19]
 | 18 => .slice 17 24
 | 19 => .slice 16 136
 | 20 => .struct [0,8,8,8,12,18,10,10]
 | 21 => .slice 20 184
 | _ => .struct [4,21]
theorem all_map {α:Type} {f:α→PV} {G:α→Prop}:∀es:List PV,(∀x∈es,∃y,x=f y∧G y)→∃l:List α,es=l.map f∧∀x∈l,G x
 | [],_=>⟨[],rfl,by simp⟩
 | x :: xs, h => by
   obtain⟨y,rfl,hy⟩:=h x (bW ..)
   obtain⟨l,rfl,hl⟩:=all_map xs (λy hy=>h y (bC _ hy))
   refine⟨y::l,rfl,?_⟩
   intro z hz
   rcases ay.1 hz with rfl|hz
   ·exact hy
   ·exact hl z hz
theorem AC {α:Type} {f:α→PV} {G:α→Prop} {i e b:Nat} (he:∀p,Sh D e p→∃x,p=f x∧G x) (hD:D i = .slice e b) (hb:0<b) (p:PV) (h:Sh D i p):∃l:List α,p = .list false (l.map f)∧l.length≤140737488351232∧∀x∈l,G x:=by
 obtain⟨es,rfl,_,hl,hs⟩:=Sh.inv_slice hD h
 obtain⟨l,rfl,h1⟩:=all_map es λx hx=>he x (hs x hx)
 rw[aN] at hl
 exact⟨l,rfl,aT (Nat.le_mul_of_pos_right _ hb) hl,h1⟩
theorem CN (p:PV) (h:Sh D 0 p):∃s,p = .str s∧s.length≤9223372036854775807:=by
 obtain⟨s,rfl,hl⟩:=Sh.inv_str (D:=D) rfl h
 exact⟨s,rfl,hl⟩
theorem CW (p:PV) (h:Sh D 1 p):∃n,p = .int .i64 n∧Al n:=by
 obtain⟨n,rfl,h1,h2⟩:=Sh.inv_int (D:=D) (k := .i64) rfl h
 exact⟨n,rfl,h1,h2⟩
theorem c5E (p:PV) (h:Sh D 13 p):∃b,p = .bool b:=by
 cases h with
 | bool _ b _=>exact⟨b,rfl⟩
 | int _ _ _ h=>cases h
 | str _ _ h=>cases h
 | slice _ _ _ _ h=>cases h
 | struct _ _ _ h=>cases h
theorem Pk (p:PV) (h:Sh D 2 p):∃l:List Str,p = .list false (l.map .str)∧l.length≤140737488351232:=by
 obtain⟨l,e,hl,_⟩:=AC CN rfl (by decide) p h
 exact⟨l,e,hl⟩
theorem c5F (p:PV) (h:Sh D 3 p):∃x:Enum,p=wE x∧x.tags.length≤140737488351232:=by
 obtain⟨ps,rfl,hq⟩:=Sh.inv_struct (D:=D) (fs:=[0,2]) rfl h
 match ps,hq with
 | [a, b], ⟨ha, hb, _⟩ =>
   obtain⟨s,rfl,_⟩:=CN a ha
   obtain⟨l,rfl,hl⟩:=Pk b hb
   exact⟨⟨s,l⟩,rfl,hl⟩
theorem d2o (p:PV) (h:Sh D 5 p):∃x:On,p=eOn x∧Al x.t:=by
 obtain⟨ps,rfl,hq⟩:=Sh.inv_struct (D:=D) (fs:=[0,1,1]) rfl h
 match ps,hq with
 | [a, b, c], ⟨ha, hb, hc, _⟩ =>
   obtain⟨s,rfl,_⟩:=CN a ha
   obtain⟨n,rfl,hn⟩:=CW b hb
   obtain⟨m,rfl,_⟩:=CW c hc
   exact⟨⟨s,n,m⟩,rfl,hn⟩
theorem HA (p:PV) (h:Sh D 7 p):∃x:Decl,p=wv x∧DF x:=by
 obtain⟨ps,rfl,hq⟩:=Sh.inv_struct (D:=D) (fs:=[0,1,6]) rfl h
 match ps,hq with
 | [a, b, c], ⟨ha, hb, hc, _⟩ =>
   obtain⟨s,rfl,hs⟩:=CN a ha
   obtain⟨n,rfl,hn⟩:=CW b hb
   obtain⟨l,rfl,hl,ho⟩:=AC d2o rfl (by decide) c hc
   exact⟨⟨s,n,l⟩,rfl,⟨hn,by show l.length≤_; omega,hs,ho⟩⟩
theorem c2N:∀(i:Nat) (p:PV),Sh D i p→(i=9→∃x:Expr,p=wq x∧EW x)∧(i=10→∃l:List Expr,p = .list false (l.map wq)∧l.length≤140737488351232∧∀x∈l,EW x):=by
 intro i p h
 induction h with
 | bool i b h=>exact⟨λe=>(by subst e; cases h),λe=>(by subst e; cases h)⟩
 | int i k n h=>exact⟨λe=>(by subst e; cases h),λe=>(by subst e; cases h)⟩
 | str i s h=>exact⟨λe=>(by subst e; cases h),λe=>(by subst e; cases h)⟩
 | slice i e b es h hl hb hs ih =>
   refine⟨λe=>(by subst e; cases h),λhi =>?_⟩
   subst hi
   obtain⟨rfl,rfl⟩:e=9∧b=72:=by cases h; exact⟨rfl,rfl⟩
   obtain⟨l,rfl,h1⟩:=all_map (f:=wq) (G:=EW) es λx hx=>(ih x hx).1 rfl
   rw[aN] at hb
   exact⟨l,rfl,by omega,h1⟩
 | struct i fs ps h hl hs ih =>
   refine⟨λhi =>?_,λe=>(by subst e; cases h)⟩
   subst hi
   obtain rfl:fs=[1,1,1,1,0,10]:=by cases h; rfl
   match ps,hl with
   | [a, b, c, d, e, f], _ =>
     obtain⟨k,rfl,_⟩:=CW a (hs 0 1 a rfl rfl)
     obtain⟨o,rfl,_⟩:=CW b (hs 1 1 b rfl rfl)
     obtain⟨t,rfl,ht⟩:=CW c (hs 2 1 c rfl rfl)
     obtain⟨v,rfl,hv⟩:=CW d (hs 3 1 d rfl rfl)
     obtain⟨s,rfl,_⟩:=CN e (hs 4 0 e rfl rfl)
     obtain⟨l,rfl,hl,hE⟩:=(ih 5 10 f rfl rfl).2 rfl
     refine⟨.mk k o t v s l,by rw[Br]; rfl,?_⟩
     intro x hx
     rw[Expr.list_eq] at hx
     rcases ay.1 hx with rfl|hx
     ·exact⟨ht,hv,by show l.length≤_; omega⟩
     ·obtain⟨y,hy,mY⟩:=bJ.1 hx
      exact hE y hy x mY
theorem HB (p:PV) (h:Sh D 9 p):∃x:Expr,p=wq x∧EW x:=(c2N 9 p h).1 rfl
theorem Pl (p:PV) (h:Sh D 11 p):∃x:Eqn,p=wH x∧QF x:=by
 obtain⟨ps,rfl,hq⟩:=Sh.inv_struct (D:=D) (fs:=[2,9]) rfl h
 match ps,hq with
 | [a, b], ⟨ha, hb, _⟩ =>
   obtain⟨l,rfl,hl⟩:=Pk a ha
   obtain⟨x,rfl,hx⟩:=HB b hb
   exact⟨⟨l,x⟩,by rw[G6]; simp[-Ka],⟨by show l.length≤_; omega,hx⟩⟩
theorem Pm (p:PV) (h:Sh D 14 p):∃x:Trn,p=xe x∧EW x.cond:=by
 obtain⟨ps,rfl,hq⟩:=Sh.inv_struct (D:=D) (fs:=[9,1,13]) rfl h
 match ps,hq with
 | [a, b, c], ⟨ha, hb, hc, _⟩ =>
   obtain⟨x,rfl,hx⟩:=HB a ha
   obtain⟨n,rfl,_⟩:=CW b hb
   obtain⟨r,rfl⟩:=c5E c hc
   exact⟨⟨x,n,r⟩,by rw[G7]; simp[-Kb],hx⟩
theorem c1a:∀(i:Nat) (p:PV),Sh D i p→(i=16→∃x:State,p=wX x∧SF x)∧(i=19→∃l:List State,p = .list false (l.map wX)∧l.length≤140737488351232∧∀x∈l,SF x) ∧
  (i=17→∃a:zt,p=wI a∧(a.length≤140737488351232∧∀x∈a,SF x))∧(i=18→∃l:List zt,p = .list false (l.map wI)∧AsF l):=by
 intro i p h
 induction h with
 | bool i b h=>exact⟨λe=>(by subst e; cases h),λe=>(by subst e; cases h),λe=>(by subst e; cases h),λe=>(by subst e; cases h)⟩
 | int i k n h=>exact⟨λe=>(by subst e; cases h),λe=>(by subst e; cases h),λe=>(by subst e; cases h),λe=>(by subst e; cases h)⟩
 | str i s h=>exact⟨λe=>(by subst e; cases h),λe=>(by subst e; cases h),λe=>(by subst e; cases h),λe=>(by subst e; cases h)⟩
 | slice i e b es h hl hb hs ih =>
   refine⟨λe=>(by subst e; cases h),λhi =>?_,λe=>(by subst e; cases h),λhi =>?_⟩
   ·subst hi
    obtain⟨rfl,rfl⟩:e=16∧b=136:=by cases h; exact⟨rfl,rfl⟩
    obtain⟨l,rfl,h1⟩:=all_map (f:=wX) (G:=SF) es λx hx=>(ih x hx).1 rfl
    rw[aN] at hb
    exact⟨l,rfl,by omega,h1⟩
   ·subst hi
    obtain⟨rfl,rfl⟩:e=17∧b=24:=by cases h; exact⟨rfl,rfl⟩
    obtain⟨l,rfl,h1⟩:=all_map (f:=wI) (G:=λa=>a.length≤140737488351232∧∀x∈a,SF x) es λx hx=>(ih x hx).2.2.1 rfl
    rw[aN] at hb
    exact⟨l,rfl,⟨by omega,λa ha=>by have:=(h1 a ha).1; omega,λa ha=>(h1 a ha).2⟩⟩
 | struct i fs ps h hl hs ih =>
   refine⟨λhi =>?_,λe=>(by subst e; cases h),λhi =>?_,λe=>(by subst e; cases h)⟩
   ·subst hi
    obtain rfl:fs=[0,8,12,18,15,15]:=by cases h; rfl
    match ps,hl with
    | [a, b, c, d, e, f], _ =>
      obtain⟨n,rfl,_⟩:=CN a (hs 0 0 a rfl rfl)
      obtain⟨l,rfl,h1,h2⟩:=AC HA rfl (by decide) b (hs 1 8 b rfl rfl)
      obtain⟨q,rfl,h3,h4⟩:=AC Pl rfl (by decide) c (hs 2 12 c rfl rfl)
      obtain⟨au,rfl,h5⟩:=(ih 3 18 d rfl rfl).2.2.2 rfl
      obtain⟨u,rfl,h6,h7⟩:=AC Pm rfl (by decide) e (hs 4 15 e rfl rfl)
      obtain⟨w,rfl,h8,h9⟩:=AC Pm rfl (by decide) f (hs 5 15 f rfl rfl)
      exact⟨.mk n l q au u w,by rw[BY]; rfl,.mk _ (by show l.length≤_; omega) h2 (by show q.length≤_; omega) h4 (by show u.length≤_; omega) h7 (by show w.length≤_; omega) h9 h5.len h5.as h5.ss⟩
   ·subst hi
    obtain rfl:fs=[19]:=by cases h; rfl
    match ps,hl with
    | [a], _ =>
      obtain⟨l,rfl,h1,h2⟩:=(ih 0 19 a rfl rfl).2.1 rfl
      exact⟨l,rfl,h1,h2⟩
theorem c5G (p:PV) (h:Sh D 20 p):∃x:Node,p=wA x∧NF x:=by
 obtain⟨ps,rfl,hq⟩:=Sh.inv_struct (D:=D) (fs:=[0,8,8,8,12,18,10,10]) rfl h
 match ps,hq with
 | [a, b, c, d, e, f, g, k], ⟨ha, hb, hc, hd, he, hf, hg, hk, _⟩ =>
   obtain⟨n,rfl,_⟩:=CN a ha
   obtain⟨i,rfl,i1,i2⟩:=AC HA rfl (by decide) b hb
   obtain⟨o,rfl,o1,o2⟩:=AC HA rfl (by decide) c hc
   obtain⟨l,rfl,l1,l2⟩:=AC HA rfl (by decide) d hd
   obtain⟨q,rfl,q1,q2⟩:=AC Pl rfl (by decide) e he
   obtain⟨au,rfl,a1⟩:=(c1a 18 f hf).2.2.2 rfl
   obtain⟨s,rfl,s1,s2⟩:=AC HB rfl (by decide) g hg
   obtain⟨r,rfl,r1,r2⟩:=AC HB rfl (by decide) k hk
   exact⟨⟨n,i,o,l,q,au,s,r⟩,rfl,⟨by show i.length≤_; omega,i2,by show o.length≤_; omega,o2,by show l.length≤_; omega,l2,by show q.length≤_; omega,q2,a1,by show s.length≤_; omega,s2,by show r.length≤_; omega,r2⟩⟩
theorem c5H (p:PV) (h:Sh D 22 p):∃x:Prog,p=xd x∧PF x:=by
 obtain⟨ps,rfl,hq⟩:=Sh.inv_struct (D:=D) (fs:=[4,21]) rfl h
 match ps,hq with
 | [a, b], ⟨ha, hb, _⟩ =>
   obtain⟨e,rfl,e1,e2⟩:=AC c5F rfl (by decide) a ha
   obtain⟨n,rfl,n1,n2⟩:=AC c5G rfl (by decide) b hb
   exact⟨⟨e,n⟩,rfl,⟨by show e.length≤_; omega,λu hu=>by have:=e2 u hu; omega,by show n.length≤_; omega,n2⟩⟩
end PI.Sc
