import Derived.Test.YtljbhgpanekomaaGreatDoorPiWp
set_option linter.unusedSimpArgs false
namespace PI
open Go (IntKind BinOp UnOp)
attribute [simp] wD CJ BB
@[simp] theorem c77 (s:Nat):xq s []=true:=rfl
@[simp] theorem c6u (s:Nat) (e:PV) (r:List PV):xq s (e::r)=(e.cells.length==s):=rfl
@[simp] theorem c78 (b:Bool):(PV.bool b).cells=[.bool b]:=rfl
@[simp] theorem c9N (k:IntKind) (n:Int):(PV.int k n).cells=[.int k n]:=rfl
@[simp] theorem cells_str (s:List UInt8):(PV.str s).cells=[.str s]:=rfl
@[simp] theorem c79 (o:Bool) (s:List PV):(PV.list o s).cells=[.list o s]:=rfl
@[simp] theorem c9O (b:Bool):(PV.bool b).flat=true:=rfl
@[simp] theorem d1T (k:IntKind) (n:Int):(PV.int k n).flat=true:=rfl
@[simp] theorem d1U (s:List UInt8):(PV.str s).flat=true:=rfl
@[simp] theorem c9P (o:Bool) (s:List PV):(PV.list o s).flat=true:=rfl
@[simp] theorem d1V (n o:Nat):(PV.ptr n o).flat=true:=rfl
@[simp] theorem c6v:PV.nilptr.flat=true:=rfl
@[simp] theorem d1W (n:Option Nat):(PV.map n).flat=true:=rfl
@[simp] theorem c9Q (n s:Nat) (a:Bool) (l:Nat):(PV.rowp n s a l).flat=true:=rfl
@[simp] theorem d1X (op:BinOp) (h1:op≠.shl) (h2:op≠.shr) (k:IntKind) (a b:Int):BA op (.int k a) (.int k b)=EM op k a b:=by cases op<;>simp_all [BA]
@[simp] theorem d1Y (op:BinOp) (a b:List UInt8):BA op (.str a) (.str b)=EO op a b:=by cases op<;>rfl
@[simp] theorem wC (i:Nat) (h:i<9223372036854775807):IntKind.i64.wrap ((i:Int)+1)=((i+1:Nat):Int):=by
 show (if (true&&decide (((i:Int)+1) % 18446744073709551616≥9223372036854775808))=true then((i:Int)+1) % 18446744073709551616 - 18446744073709551616 else((i:Int)+1) % 18446744073709551616)=_
 simp only[ck,ak]
 split<;>omega
theorem xx (n:Int) (h1 : -9223372036854775808≤n) (h2:n≤9223372036854775807):IntKind.i64.wrap n=n:=by
 show (if (true&&decide (n % 18446744073709551616≥9223372036854775808))=true then n % 18446744073709551616 - 18446744073709551616 else n % 18446744073709551616)=_
 simp only[ck,ak]
 split<;>omega
theorem HB (l:List PV):wP l=l.all wR:=by induction l<;>simp_all
@[simp] theorem c5h (a b:List PV):wP (a++b)=(wP a&&wP b):=by simp[HB,bU]
@[simp] theorem c8a (l:List PV) (n:Nat) (h:wP l=true):wP (l.take n)=true:=by
 rw[HB,aD] at *
 exact λx hx=>h x (List.mem_of_mem_take hx)
@[simp] theorem c8b (l:List PV) (n:Nat) (h:wP l=true):wP (l.drop n)=true:=by
 rw[HB,aD] at *
 exact λx hx=>h x (ct hx)
theorem Bp {α:Type} {f:α→PV} (h:∀x,wR (f x)=true) (l:List α):wP (l.map f)=true:=by
 rw[HB,aD]; intro x hx; obtain⟨y,_,rfl⟩:=a8.1 hx; exact h y
@[simp] theorem c9R (l:List (List UInt8)):wP (l.map PV.str)=true:=Bp (λ_=>rfl) l
@[simp] theorem c9S (l:List (List UInt8)):xq 1 (l.map PV.str)=true:=by cases l<;>simp
@[simp] theorem c9T (l:List Int):wP (l.map (PV.int .i64))=true:=Bp (λ_=>rfl) l
@[simp] theorem c9U (l:List Int):xq 1 (l.map (PV.int .i64))=true:=by cases l<;>simp
namespace Sc
abbrev Str:=List UInt8
structure On where
 name:Str
 t:Int
 tag:Int
 deriving Inhabited,DecidableEq
def eOn (x:On):PV := .agg [.str x.name,.int .i64 x.t,.int .i64 x.tag]
theorem OD (x:On):eOn x = .agg [.str x.name,.int .i64 x.t,.int .i64 x.tag]:=rfl
@[simp] theorem c9V (x:On):(eOn x).cells=[.str x.name,.int .i64 x.t,.int .i64 x.tag]:=rfl
@[simp] theorem d4v (x:On):cp (eOn x)=some (eOn x):=rfl
@[simp] theorem d3x (x:On):tkv (eOn x)=some (eOn x,false):=rfl
@[simp] theorem c5j (x:On):AJ (eOn x)=some (eOn x).cells:=rfl
@[simp] theorem d3y (x:On):dem (eOn x)=eOn x:=rfl
@[simp] theorem d1Z (x:On):Aa (eOn x)=eOn x:=rfl
@[simp] theorem d10 (x:On):xN (eOn x)=none:=rfl
@[simp] theorem c32 (x:On):PV.agg [.str x.name,.int .i64 x.t,.int .i64 x.tag]=eOn x:=(OD x).symm
@[simp] theorem d11 (h:List PObj) (x:On):ym h (eOn x)=some (eOn x):=by
 rw[OD]; simp[-c32]
@[simp] theorem d3z (l:List On):xq 3 (l.map eOn)=true:=by cases l<;>simp
@[simp] theorem d4w (x y:On):peq true [.s,.i,.i] (eOn x) (eOn y)=some (decide (x=y)):=by
 cases x; cases y
 simp only[eOn,peq,if_true,Ah,AB,ar,az,aa,On.mk.injEq,cd]
 rw[aF]; simp
structure Decl where
 name:Str
 type:Int
 clock:List On
 deriving Inhabited,DecidableEq
def wF (x:Decl):PV := .agg [.str x.name,.int .i64 x.type,.list false (x.clock.map eOn)]
theorem HC (x:Decl):wF x = .agg [.str x.name,.int .i64 x.type,.list false (x.clock.map eOn)]:=rfl
@[simp] theorem c6w (x:Decl):(wF x).cells=[.str x.name,.int .i64 x.type,.list false (x.clock.map eOn)]:=rfl
@[simp] theorem d12 (x:Decl):cp (wF x)=some (wF x):=rfl
@[simp] theorem c9W (x:Decl):tkv (wF x)=some (wF x,false):=rfl
@[simp] theorem c3o (x:Decl):AJ (wF x)=some (wF x).cells:=rfl
@[simp] theorem c9X (x:Decl):dem (wF x)=wF x:=rfl
@[simp] theorem c8c (x:Decl):Aa (wF x)=wF x:=rfl
@[simp] theorem c8d (x:Decl):xN (wF x)=none:=rfl
@[simp] theorem OE (x:Decl):PV.agg [.str x.name,.int .i64 x.type,.list false (x.clock.map eOn)]=wF x:=(HC x).symm
@[simp] theorem c8e (h:List PObj) (x:Decl):ym h (wF x)=some (wF x):=by
 rw[HC]; simp[-OE]
@[simp] theorem c2j (l:List Decl):xq 3 (l.map wF)=true:=by cases l<;>simp
structure Enum where
 name:Str
 tags:List Str
 deriving Inhabited,DecidableEq
def wJ (x:Enum):PV := .agg [.str x.name,.list false (x.tags.map PV.str)]
theorem KO (x:Enum):wJ x = .agg [.str x.name,.list false (x.tags.map PV.str)]:=rfl
@[simp] theorem c6x (x:Enum):(wJ x).cells=[.str x.name,.list false (x.tags.map PV.str)]:=rfl
@[simp] theorem d13 (x:Enum):cp (wJ x)=some (wJ x):=rfl
@[simp] theorem c9Y (x:Enum):tkv (wJ x)=some (wJ x,false):=rfl
@[simp] theorem c3p (x:Enum):AJ (wJ x)=some (wJ x).cells:=rfl
@[simp] theorem c9Z (x:Enum):dem (wJ x)=wJ x:=rfl
@[simp] theorem c8f (x:Enum):Aa (wJ x)=wJ x:=rfl
@[simp] theorem c8g (x:Enum):xN (wJ x)=none:=rfl
@[simp] theorem OF (x:Enum):PV.agg [.str x.name,.list false (x.tags.map PV.str)]=wJ x:=(KO x).symm
@[simp] theorem c8h (h:List PObj) (x:Enum):ym h (wJ x)=some (wJ x):=by
 rw[KO]; simp[-OF]
@[simp] theorem c90 (l:List Enum):xq 2 (l.map wJ)=true:=by cases l<;>simp
inductive Expr where
 | mk (kind:Int) (op:Int) (t:Int) (v:Int) (name:Str) (args:List Expr)
instance:Inhabited Expr:=⟨.mk 0 0 0 0 [] []⟩
def Expr.kind:Expr→Int | .mk x _ _ _ _ _=>x
@[simp] theorem Expr.kind_mk (kind:Int) (op:Int) (t:Int) (v:Int) (name:Str) (args:List Expr):(Expr.mk kind op t v name args).kind=kind:=rfl
def Expr.op:Expr→Int | .mk _ x _ _ _ _=>x
@[simp] theorem Expr.op_mk (kind:Int) (op:Int) (t:Int) (v:Int) (name:Str) (args:List Expr):(Expr.mk kind op t v name args).op=op:=rfl
def Expr.t:Expr→Int | .mk _ _ x _ _ _=>x
@[simp] theorem Expr.t_mk (kind:Int) (op:Int) (t:Int) (v:Int) (name:Str) (args:List Expr):(Expr.mk kind op t v name args).t=t:=rfl
def Expr.v:Expr→Int | .mk _ _ _ x _ _=>x
@[simp] theorem Expr.v_mk (kind:Int) (op:Int) (t:Int) (v:Int) (name:Str) (args:List Expr):(Expr.mk kind op t v name args).v=v:=rfl
def Expr.name:Expr→Str | .mk _ _ _ _ x _=>x
@[simp] theorem Expr.name_mk (kind:Int) (op:Int) (t:Int) (v:Int) (name:Str) (args:List Expr):(Expr.mk kind op t v name args).name=name:=rfl
def Expr.args:Expr→List Expr | .mk _ _ _ _ _ x=>x
@[simp] theorem Expr.args_mk (kind:Int) (op:Int) (t:Int) (v:Int) (name:Str) (args:List Expr):(Expr.mk kind op t v name args).args=args:=rfl
mutual
def wy:Expr→PV
 | .mk k o t v n as => .agg [.int .i64 k,.int .i64 o,.int .i64 t,.int .i64 v,.str n,.list false (Ex as)]
def Ex:List Expr→List PV
 | []=>[]
 | x::xs=>wy x::Ex xs
end
theorem OG:∀l:List Expr,Ex l=l.map wy
 | []=>rfl
 | x::xs=>by simp[Ex,OG xs]
theorem Cl (x:Expr):wy x = .agg [.int .i64 x.kind,.int .i64 x.op,.int .i64 x.t,.int .i64 x.v,.str x.name,.list false (x.args.map wy)]:=by cases x; simp[wy,OG,Expr.kind,Expr.op,Expr.t,Expr.v,Expr.name,Expr.args]
@[simp] theorem c6y (x:Expr):(wy x).cells=[.int .i64 x.kind,.int .i64 x.op,.int .i64 x.t,.int .i64 x.v,.str x.name,.list false (x.args.map wy)]:=by rw[Cl]; rfl
@[simp] theorem d14 (x:Expr):cp (wy x)=some (wy x):=by rw[Cl]; rfl
@[simp] theorem c91 (x:Expr):tkv (wy x)=some (wy x,false):=by rw[Cl]; rfl
@[simp] theorem c3q (x:Expr):AJ (wy x)=some (wy x).cells:=by rw[Cl]; rfl
@[simp] theorem c2k (x:Expr):dem (wy x)=wy x:=by rw[Cl]; rfl
@[simp] theorem c8i (x:Expr):Aa (wy x)=wy x:=by rw[Cl]; rfl
@[simp] theorem c8j (x:Expr):xN (wy x)=none:=by rw[Cl]; rfl
@[simp] theorem c0B (x:Expr):PV.agg [.int .i64 x.kind,.int .i64 x.op,.int .i64 x.t,.int .i64 x.v,.str x.name,.list false (x.args.map wy)]=wy x:=(Cl x).symm
@[simp] theorem c8k (h:List PObj) (x:Expr):ym h (wy x)=some (wy x):=by
 rw[Cl]; simp[-c0B]
@[simp] theorem c92 (l:List Expr):xq 6 (l.map wy)=true:=by cases l<;>simp
structure Eqn where
 left:List Str
 right:Expr
 deriving Inhabited
def xn (x:Eqn):PV := .agg [.list false (x.left.map PV.str),.int .i64 x.right.kind,.int .i64 x.right.op,.int .i64 x.right.t,.int .i64 x.right.v,.str x.right.name,.list false (x.right.args.map wy)]
theorem HD (x:Eqn):xn x = .agg [.list false (x.left.map PV.str),.int .i64 x.right.kind,.int .i64 x.right.op,.int .i64 x.right.t,.int .i64 x.right.v,.str x.right.name,.list false (x.right.args.map wy)]:=rfl
@[simp] theorem c8l (x:Eqn):(xn x).cells=[.list false (x.left.map PV.str),.int .i64 x.right.kind,.int .i64 x.right.op,.int .i64 x.right.t,.int .i64 x.right.v,.str x.right.name,.list false (x.right.args.map wy)]:=rfl
@[simp] theorem d3A (x:Eqn):cp (xn x)=some (xn x):=rfl
@[simp] theorem d15 (x:Eqn):tkv (xn x)=some (xn x,false):=rfl
@[simp] theorem c33 (x:Eqn):AJ (xn x)=some (xn x).cells:=rfl
@[simp] theorem d16 (x:Eqn):dem (xn x)=xn x:=rfl
@[simp] theorem c93 (x:Eqn):Aa (xn x)=xn x:=rfl
@[simp] theorem c94 (x:Eqn):xN (xn x)=none:=rfl
@[simp] theorem KP (x:Eqn):PV.agg [.list false (x.left.map PV.str),.int .i64 x.right.kind,.int .i64 x.right.op,.int .i64 x.right.t,.int .i64 x.right.v,.str x.right.name,.list false (x.right.args.map wy)]=xn x:=(HD x).symm
@[simp] theorem c95 (h:List PObj) (x:Eqn):ym h (xn x)=some (xn x):=by
 rw[HD]; simp[-KP]
@[simp] theorem d17 (l:List Eqn):xq 7 (l.map xn)=true:=by cases l<;>simp
structure Trn where
 cond:Expr
 to:Int
 resume:Bool
 deriving Inhabited
def xL (x:Trn):PV := .agg [.int .i64 x.cond.kind,.int .i64 x.cond.op,.int .i64 x.cond.t,.int .i64 x.cond.v,.str x.cond.name,.list false (x.cond.args.map wy),.int .i64 x.to,.bool x.resume]
theorem HE (x:Trn):xL x = .agg [.int .i64 x.cond.kind,.int .i64 x.cond.op,.int .i64 x.cond.t,.int .i64 x.cond.v,.str x.cond.name,.list false (x.cond.args.map wy),.int .i64 x.to,.bool x.resume]:=rfl
@[simp] theorem c8m (x:Trn):(xL x).cells=[.int .i64 x.cond.kind,.int .i64 x.cond.op,.int .i64 x.cond.t,.int .i64 x.cond.v,.str x.cond.name,.list false (x.cond.args.map wy),.int .i64 x.to,.bool x.resume]:=rfl
@[simp] theorem d3B (x:Trn):cp (xL x)=some (xL x):=rfl
@[simp] theorem d18 (x:Trn):tkv (xL x)=some (xL x,false):=rfl
@[simp] theorem c34 (x:Trn):AJ (xL x)=some (xL x).cells:=rfl
@[simp] theorem d19 (x:Trn):dem (xL x)=xL x:=rfl
@[simp] theorem c96 (x:Trn):Aa (xL x)=xL x:=rfl
@[simp] theorem c97 (x:Trn):xN (xL x)=none:=rfl
@[simp] theorem KR (x:Trn):PV.agg [.int .i64 x.cond.kind,.int .i64 x.cond.op,.int .i64 x.cond.t,.int .i64 x.cond.v,.str x.cond.name,.list false (x.cond.args.map wy),.int .i64 x.to,.bool x.resume]=xL x:=(HE x).symm
@[simp] theorem c98 (h:List PObj) (x:Trn):ym h (xL x)=some (xL x):=by
 rw[HE]; simp[-KR]
@[simp] theorem d2a (l:List Trn):xq 8 (l.map xL)=true:=by cases l<;>simp
inductive State where
 | mk (name:Str) (locals:List Decl) (eqs:List Eqn) (autos:List (List State)) (unl:List Trn) (til:List Trn)
instance:Inhabited State:=⟨.mk [] [] [] [] [] []⟩
def State.name:State→Str | .mk x _ _ _ _ _=>x
@[simp] theorem State.name_mk (name:Str) (locals:List Decl) (eqs:List Eqn) (autos:List (List State)) (unl:List Trn) (til:List Trn):(State.mk name locals eqs autos unl til).name=name:=rfl
def State.locals:State→List Decl | .mk _ x _ _ _ _=>x
@[simp] theorem State.locals_mk (name:Str) (locals:List Decl) (eqs:List Eqn) (autos:List (List State)) (unl:List Trn) (til:List Trn):(State.mk name locals eqs autos unl til).locals=locals:=rfl
def State.eqs:State→List Eqn | .mk _ _ x _ _ _=>x
@[simp] theorem State.eqs_mk (name:Str) (locals:List Decl) (eqs:List Eqn) (autos:List (List State)) (unl:List Trn) (til:List Trn):(State.mk name locals eqs autos unl til).eqs=eqs:=rfl
def State.autos:State→List (List State) | .mk _ _ _ x _ _=>x
@[simp] theorem State.autos_mk (name:Str) (locals:List Decl) (eqs:List Eqn) (autos:List (List State)) (unl:List Trn) (til:List Trn):(State.mk name locals eqs autos unl til).autos=autos:=rfl
def State.unl:State→List Trn | .mk _ _ _ _ x _=>x
@[simp] theorem State.unl_mk (name:Str) (locals:List Decl) (eqs:List Eqn) (autos:List (List State)) (unl:List Trn) (til:List Trn):(State.mk name locals eqs autos unl til).unl=unl:=rfl
def State.til:State→List Trn | .mk _ _ _ _ _ x=>x
@[simp] theorem State.til_mk (name:Str) (locals:List Decl) (eqs:List Eqn) (autos:List (List State)) (unl:List Trn) (til:List Trn):(State.mk name locals eqs autos unl til).til=til:=rfl
abbrev zq:=List State
mutual
def w8:State→PV
 | .mk n l e a u w => .agg [.str n,.list false (l.map wF),.list false (e.map xn),.list false (Ey a),.list false (u.map xL),.list false (w.map xL)]
def Ez:List State→List PV
 | []=>[]
 | x::xs=>w8 x::Ez xs
def Ey:List (List State)→List PV
 | []=>[]
 | x::xs => .agg [.list false (Ez x)]::Ey xs
end
def xg (a:zq):PV := .agg [.list false (a.map w8)]
theorem OH:∀l:List State,Ez l=l.map w8
 | []=>rfl
 | x::xs=>by simp[Ez,OH xs]
theorem OI:∀l:List (List State),Ey l=l.map xg
 | []=>rfl
 | x::xs=>by simp[Ey,OI xs,OH,xg]
theorem Cm (x:State):w8 x = .agg [.str x.name,.list false (x.locals.map wF),.list false (x.eqs.map xn),.list false (x.autos.map xg),.list false (x.unl.map xL),.list false (x.til.map xL)]:=by cases x; simp[w8,OI]
@[simp] theorem KS (x:State):(w8 x).cells=[.str x.name,.list false (x.locals.map wF),.list false (x.eqs.map xn),.list false (x.autos.map xg),.list false (x.unl.map xL),.list false (x.til.map xL)]:=by rw[Cm]; rfl
@[simp] theorem c99 (x:State):cp (w8 x)=some (w8 x):=by rw[Cm]; rfl
@[simp] theorem c8n (x:State):tkv (w8 x)=some (w8 x,false):=by rw[Cm]; rfl
@[simp] theorem c2l (x:State):AJ (w8 x)=some (w8 x).cells:=by rw[Cm]; rfl
@[simp] theorem c8o (x:State):dem (w8 x)=w8 x:=by rw[Cm]; rfl
@[simp] theorem c6z (x:State):Aa (w8 x)=w8 x:=by rw[Cm]; rfl
@[simp] theorem c6A (x:State):xN (w8 x)=none:=by rw[Cm]; rfl
@[simp] theorem b8U (x:State):PV.agg [.str x.name,.list false (x.locals.map wF),.list false (x.eqs.map xn),.list false (x.autos.map xg),.list false (x.unl.map xL),.list false (x.til.map xL)]=w8 x:=(Cm x).symm
@[simp] theorem c6B (h:List PObj) (x:State):ym h (w8 x)=some (w8 x):=by
 rw[Cm]; simp[-b8U]
@[simp] theorem c8p (l:List State):xq 6 (l.map w8)=true:=by cases l<;>simp
theorem OJ (x:zq):xg x = .agg [.list false (x.map w8)]:=rfl
@[simp] theorem c6C (x:zq):(xg x).cells=[.list false (x.map w8)]:=rfl
@[simp] theorem d2b (x:zq):cp (xg x)=some (xg x):=rfl
@[simp] theorem d0a (x:zq):tkv (xg x)=some (xg x,false):=rfl
@[simp] theorem c3r (x:zq):AJ (xg x)=some (xg x).cells:=rfl
@[simp] theorem d0b (x:zq):dem (xg x)=xg x:=rfl
@[simp] theorem c8q (x:zq):Aa (xg x)=xg x:=rfl
@[simp] theorem c8r (x:zq):xN (xg x)=none:=rfl
@[simp] theorem OL (x:zq):PV.agg [.list false (x.map w8)]=xg x:=rfl
@[simp] theorem c8s (h:List PObj) (x:zq):ym h (xg x)=some (xg x):=by
 rw[OJ]; simp[-OL]
@[simp] theorem d0c (l:List zq):xq 1 (l.map xg)=true:=by cases l<;>simp
structure Node where
 name:Str
 ins:List Decl
 outs:List Decl
 locals:List Decl
 eqs:List Eqn
 autos:List (List State)
 assume:List Expr
 ensure:List Expr
 deriving Inhabited
def xc (x:Node):PV := .agg [.str x.name,.list false (x.ins.map wF),.list false (x.outs.map wF),.list false (x.locals.map wF),.list false (x.eqs.map xn),.list false (x.autos.map xg),.list false (x.assume.map wy),.list false (x.ensure.map wy)]
theorem OM (x:Node):xc x = .agg [.str x.name,.list false (x.ins.map wF),.list false (x.outs.map wF),.list false (x.locals.map wF),.list false (x.eqs.map xn),.list false (x.autos.map xg),.list false (x.assume.map wy),.list false (x.ensure.map wy)]:=rfl
@[simp] theorem c6D (x:Node):(xc x).cells=[.str x.name,.list false (x.ins.map wF),.list false (x.outs.map wF),.list false (x.locals.map wF),.list false (x.eqs.map xn),.list false (x.autos.map xg),.list false (x.assume.map wy),.list false (x.ensure.map wy)]:=rfl
@[simp] theorem d2c (x:Node):cp (xc x)=some (xc x):=rfl
@[simp] theorem d0d (x:Node):tkv (xc x)=some (xc x,false):=rfl
@[simp] theorem c3s (x:Node):AJ (xc x)=some (xc x).cells:=rfl
@[simp] theorem d0e (x:Node):dem (xc x)=xc x:=rfl
@[simp] theorem c8t (x:Node):Aa (xc x)=xc x:=rfl
@[simp] theorem c8u (x:Node):xN (xc x)=none:=rfl
@[simp] theorem OO (x:Node):PV.agg [.str x.name,.list false (x.ins.map wF),.list false (x.outs.map wF),.list false (x.locals.map wF),.list false (x.eqs.map xn),.list false (x.autos.map xg),.list false (x.assume.map wy),.list false (x.ensure.map wy)]=xc x:=rfl
@[simp] theorem c8v (h:List PObj) (x:Node):ym h (xc x)=some (xc x):=by
 rw[OM]; simp[-OO]
@[simp] theorem d0f (l:List Node):xq 8 (l.map xc)=true:=by cases l<;>simp
structure Prog where
 enums:List Enum
 nodes:List Node
 deriving Inhabited
def yh (x:Prog):PV := .agg [.list false (x.enums.map wJ),.list false (x.nodes.map xc)]
theorem OP (x:Prog):yh x = .agg [.list false (x.enums.map wJ),.list false (x.nodes.map xc)]:=rfl
@[simp] theorem c6E (x:Prog):(yh x).cells=[.list false (x.enums.map wJ),.list false (x.nodes.map xc)]:=rfl
@[simp] theorem d2d (x:Prog):cp (yh x)=some (yh x):=rfl
@[simp] theorem d0g (x:Prog):tkv (yh x)=some (yh x,false):=rfl
@[simp] theorem c3t (x:Prog):AJ (yh x)=some (yh x).cells:=rfl
@[simp] theorem d0h (x:Prog):dem (yh x)=yh x:=rfl
@[simp] theorem c8w (x:Prog):Aa (yh x)=yh x:=rfl
@[simp] theorem c8x (x:Prog):xN (yh x)=none:=rfl
@[simp] theorem OQ (x:Prog):PV.agg [.list false (x.enums.map wJ),.list false (x.nodes.map xc)]=yh x:=rfl
@[simp] theorem c8y (h:List PObj) (x:Prog):ym h (yh x)=some (yh x):=by
 rw[OP]; simp[-OQ]
@[simp] theorem d0i (l:List Prog):xq 2 (l.map yh)=true:=by cases l<;>simp
mutual
theorem OR:∀x:Expr,wR (wy x)=true
 | .mk k o t v n as=>by simp only[wy,wR,wP,OS as,cd]
theorem OS:∀l:List Expr,wP (Ex l)=true
 | []=>rfl
 | x::xs=>by simp only[Ex,wP,OR x,OS xs,cd]
end
@[simp] theorem c0C (x:Expr):wR (wy x)=true:=OR x
@[simp] theorem d0j (l:List Expr):wP (l.map wy)=true:=Bp c0C l
@[simp] theorem c35 (x:On):wR (eOn x)=true:=rfl
@[simp] theorem d3C (l:List On):wP (l.map eOn)=true:=Bp c35 l
@[simp] theorem c0D (x:Decl):wR (wF x)=true:=by rw[HC]; simp[-OE]
@[simp] theorem c2m (l:List Decl):wP (l.map wF)=true:=Bp c0D l
@[simp] theorem c0E (x:Enum):wR (wJ x)=true:=by rw[KO]; simp[-OF]
@[simp] theorem d0k (l:List Enum):wP (l.map wJ)=true:=Bp c0E l
@[simp] theorem c2n (x:Eqn):wR (xn x)=true:=by rw[HD]; simp[-KP]
@[simp] theorem c36 (l:List Eqn):wP (l.map xn)=true:=Bp c2n l
@[simp] theorem c2o (x:Trn):wR (xL x)=true:=by rw[HE]; simp[-KR]
@[simp] theorem c37 (l:List Trn):wP (l.map xL)=true:=Bp c2o l
mutual
theorem OT:∀x:State,wR (w8 x)=true
 | .mk n l e a u w=>by simp only[w8,wR,wP,c2m,c36,c37,OU a,cd]
theorem OV:∀l:List State,wP (Ez l)=true
 | []=>rfl
 | x::xs=>by simp only[Ez,wP,OT x,OV xs,cd]
theorem OU:∀l:List (List State),wP (Ey l)=true
 | []=>rfl
 | x::xs=>by simp only[Ey,wP,wR,OV x,OU xs,cd]
end
@[simp] theorem b8V (x:State):wR (w8 x)=true:=OT x
@[simp] theorem c0F (l:List State):wP (l.map w8)=true:=Bp b8V l
@[simp] theorem c0G (x:zq):wR (xg x)=true:=by simp[OJ,-OL]
@[simp] theorem d0l (l:List zq):wP (l.map xg)=true:=Bp c0G l
@[simp] theorem c0H (x:Node):wR (xc x)=true:=by rw[OM]; simp[-OO]
@[simp] theorem d0m (l:List Node):wP (l.map xc)=true:=Bp c0H l
@[simp] theorem c8z (x:Prog):wR (yh x)=true:=by rw[OP]; simp[-OQ]
end Sc
end PI
