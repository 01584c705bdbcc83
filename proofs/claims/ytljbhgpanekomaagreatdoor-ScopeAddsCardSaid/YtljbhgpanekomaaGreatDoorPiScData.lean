import Derived.Test.YtljbhgpanekomaaGreatDoorPiWp
set_option linter.unusedSimpArgs false
namespace PI
open Go (IntKind BinOp UnOp)
attribute [simp] wz Cs Bf
@[simp] theorem c6C (s:Nat):xf s []=true:=rfl
@[simp] theorem c4Z (s:Nat) (e:PV) (r:List PV):xf s (e::r)=(e.cells.length==s):=rfl
@[simp] theorem c6D (b:Bool):(PV.bool b).cells=[.bool b]:=rfl
@[simp] theorem c8o (k:IntKind) (n:Int):(PV.int k n).cells=[.int k n]:=rfl
@[simp] theorem cells_str (s:List UInt8):(PV.str s).cells=[.str s]:=rfl
@[simp] theorem c6E (o:Bool) (s:List PV):(PV.list o s).cells=[.list o s]:=rfl
@[simp] theorem c8p (b:Bool):(PV.bool b).flat=true:=rfl
@[simp] theorem d0y (k:IntKind) (n:Int):(PV.int k n).flat=true:=rfl
@[simp] theorem d0z (s:List UInt8):(PV.str s).flat=true:=rfl
@[simp] theorem c8q (o:Bool) (s:List PV):(PV.list o s).flat=true:=rfl
@[simp] theorem d0A (n o:Nat):(PV.ptr n o).flat=true:=rfl
@[simp] theorem c40:PV.nilptr.flat=true:=rfl
@[simp] theorem d0B (n:Option Nat):(PV.map n).flat=true:=rfl
@[simp] theorem c8r (n s:Nat) (a:Bool) (l:Nat):(PV.rowp n s a l).flat=true:=rfl
@[simp] theorem d0C (op:BinOp) (h1:op≠.shl) (h2:op≠.shr) (k:IntKind) (a b:Int):Be op (.int k a) (.int k b)=Es op k a b:=by cases op<;>simp_all [Be]
@[simp] theorem d0D (op:BinOp) (a b:List UInt8):Be op (.str a) (.str b)=Et op a b:=by cases op<;>rfl
@[simp] theorem wC (i:Nat) (h:i<9223372036854775807):IntKind.i64.wrap ((i:Int)+1)=((i+1:Nat):Int):=by
 show (if (true&&decide (((i:Int)+1) % 18446744073709551616≥9223372036854775808))=true then((i:Int)+1) % 18446744073709551616 - 18446744073709551616 else((i:Int)+1) % 18446744073709551616)=_
 simp only[cn,aq]
 split<;>omega
theorem xD (n:Int) (h1 : -9223372036854775808≤n) (h2:n≤9223372036854775807):IntKind.i64.wrap n=n:=by
 show (if (true&&decide (n % 18446744073709551616≥9223372036854775808))=true then n % 18446744073709551616 - 18446744073709551616 else n % 18446744073709551616)=_
 simp only[cn,aq]
 split<;>omega
theorem GZ (l:List PV):wK l=l.all wN:=by induction l<;>simp_all
@[simp] theorem c3G (a b:List PV):wK (a++b)=(wK a&&wK b):=by simp[GZ,cj]
@[simp] theorem c6F (l:List PV) (n:Nat) (h:wK l=true):wK (l.take n)=true:=by
 rw[GZ,aD] at *
 exact λx hx=>h x (List.mem_of_mem_take hx)
@[simp] theorem c6G (l:List PV) (n:Nat) (h:wK l=true):wK (l.drop n)=true:=by
 rw[GZ,aD] at *
 exact λx hx=>h x (cu hx)
theorem A6 {α:Type} {f:α→PV} (h:∀x,wN (f x)=true) (l:List α):wK (l.map f)=true:=by
 rw[GZ,aD]; intro x hx; obtain⟨y,_,rfl⟩:=bl.1 hx; exact h y
@[simp] theorem c8s (l:List (List UInt8)):wK (l.map PV.str)=true:=A6 (λ_=>rfl) l
@[simp] theorem c8t (l:List (List UInt8)):xf 1 (l.map PV.str)=true:=by cases l<;>simp
@[simp] theorem c8u (l:List Int):wK (l.map (PV.int .i64))=true:=A6 (λ_=>rfl) l
@[simp] theorem c8v (l:List Int):xf 1 (l.map (PV.int .i64))=true:=by cases l<;>simp
namespace Sc
abbrev Str:=List UInt8
structure On where
 name:Str
 t:Int
 tag:Int
 deriving Inhabited,DecidableEq
def eOn (x:On):PV := .agg [.str x.name,.int .i64 x.t,.int .i64 x.tag]
theorem NN (x:On):eOn x = .agg [.str x.name,.int .i64 x.t,.int .i64 x.tag]:=rfl
@[simp] theorem c8w (x:On):(eOn x).cells=[.str x.name,.int .i64 x.t,.int .i64 x.tag]:=rfl
@[simp] theorem d27 (x:On):cp (eOn x)=some (eOn x):=rfl
@[simp] theorem d2a (x:On):tkv (eOn x)=some (eOn x,false):=rfl
@[simp] theorem c3H (x:On):An (eOn x)=some (eOn x).cells:=rfl
@[simp] theorem d2b (x:On):dem (eOn x)=eOn x:=rfl
@[simp] theorem d0E (x:On):zy (eOn x)=eOn x:=rfl
@[simp] theorem d0F (x:On):xt (eOn x)=none:=rfl
@[simp] theorem c2f (x:On):PV.agg [.str x.name,.int .i64 x.t,.int .i64 x.tag]=eOn x:=(NN x).symm
@[simp] theorem d0G (h:List PObj) (x:On):xF h (eOn x)=some (eOn x):=by
 rw[NN]; simp[-c2f]
@[simp] theorem d2c (l:List On):xf 3 (l.map eOn)=true:=by cases l<;>simp
@[simp] theorem d28 (x y:On):peq true [.s,.i,.i] (eOn x) (eOn y)=some (decide (x=y)):=by
 cases x; cases y
 simp only[eOn,peq,if_true,zD,Ac,aw,aA,aa,On.mk.injEq,ci]
 rw[aI]; simp
structure Decl where
 name:Str
 type:Int
 clock:List On
 deriving Inhabited,DecidableEq
def wv (x:Decl):PV := .agg [.str x.name,.int .i64 x.type,.list false (x.clock.map eOn)]
theorem G5 (x:Decl):wv x = .agg [.str x.name,.int .i64 x.type,.list false (x.clock.map eOn)]:=rfl
@[simp] theorem c41 (x:Decl):(wv x).cells=[.str x.name,.int .i64 x.type,.list false (x.clock.map eOn)]:=rfl
@[simp] theorem d0H (x:Decl):cp (wv x)=some (wv x):=rfl
@[simp] theorem c8x (x:Decl):tkv (wv x)=some (wv x,false):=rfl
@[simp] theorem c1x (x:Decl):An (wv x)=some (wv x).cells:=rfl
@[simp] theorem c8y (x:Decl):dem (wv x)=wv x:=rfl
@[simp] theorem c6H (x:Decl):zy (wv x)=wv x:=rfl
@[simp] theorem c6I (x:Decl):xt (wv x)=none:=rfl
@[simp] theorem NO (x:Decl):PV.agg [.str x.name,.int .i64 x.type,.list false (x.clock.map eOn)]=wv x:=(G5 x).symm
@[simp] theorem c6J (h:List PObj) (x:Decl):xF h (wv x)=some (wv x):=by
 rw[G5]; simp[-NO]
@[simp] theorem c8z (l:List Decl):xf 3 (l.map wv)=true:=by cases l<;>simp
structure Enum where
 name:Str
 tags:List Str
 deriving Inhabited,DecidableEq
def wE (x:Enum):PV := .agg [.str x.name,.list false (x.tags.map PV.str)]
theorem J9 (x:Enum):wE x = .agg [.str x.name,.list false (x.tags.map PV.str)]:=rfl
@[simp] theorem c42 (x:Enum):(wE x).cells=[.str x.name,.list false (x.tags.map PV.str)]:=rfl
@[simp] theorem d0I (x:Enum):cp (wE x)=some (wE x):=rfl
@[simp] theorem c8A (x:Enum):tkv (wE x)=some (wE x,false):=rfl
@[simp] theorem c1y (x:Enum):An (wE x)=some (wE x).cells:=rfl
@[simp] theorem c8B (x:Enum):dem (wE x)=wE x:=rfl
@[simp] theorem c6K (x:Enum):zy (wE x)=wE x:=rfl
@[simp] theorem c6L (x:Enum):xt (wE x)=none:=rfl
@[simp] theorem NP (x:Enum):PV.agg [.str x.name,.list false (x.tags.map PV.str)]=wE x:=(J9 x).symm
@[simp] theorem c6M (h:List PObj) (x:Enum):xF h (wE x)=some (wE x):=by
 rw[J9]; simp[-NP]
@[simp] theorem c8C (l:List Enum):xf 2 (l.map wE)=true:=by cases l<;>simp
inductive Expr where
 | mk (kind:Int) (op:Int) (t:Int) (v:Int) (name:Str) (args:List Expr)
instance:Inhabited Expr:=⟨.mk 0 0 0 0 [] []⟩
def Expr.kind:Expr→Int | .mk x _ _ _ _ _=>x
@[simp] theorem Expr.kind_mk (kind:Int) (op:Int) (t:Int) (v:Int) (name:Str) (args:List Expr):(Expr.mk kind op t v name args).kind=kind:=rfl
def Expr.op:Expr→Int | .mk _ x _ _ _ _=>x
@[simp] theorem Expr.op_mk (kind:Int) (op:Int) (t:Int) (v:Int) (name:Str) (args:List Expr):(Expr.mk kind op t v name args).op=op:=rfl
def Expr.t:Expr→Int | .mk _ _ x _ _ _=>x
@[simp] theorem Expr.t_mk (kind:Int) (op:Int) (t:Int) (v:Int) (name:Str) (args:List Expr):(Expr.mk kind op t v name args).t=t:=rfl
def Expr.v:Expr→Int | .mk _ _ _ x _ _=>x
@[simp] theorem Expr.v_mk (kind:Int) (op:Int) (t:Int) (v:Int) (name:Str) (args:List Expr):(Expr.mk kind op t v name args).v=v:=rfl
def Expr.name:Expr→Str | .mk _ _ _ _ x _=>x
@[simp] theorem Expr.name_mk (kind:Int) (op:Int) (t:Int) (v:Int) (name:Str) (args:List Expr):(Expr.mk kind op t v name args).name=name:=rfl
def Expr.args:Expr→List Expr | .mk _ _ _ _ _ x=>x
@[simp] theorem Expr.args_mk (kind:Int) (op:Int) (t:Int) (v:Int) (name:Str) (args:List Expr):(Expr.mk kind op t v name args).args=args:=rfl
mutual
def wq:Expr→PV
 | .mk k o t v n as => .agg [.int .i64 k,.int .i64 o,.int .i64 t,.int .i64 v,.str n,.list false (Ea as)]
def Ea:List Expr→List PV
 | []=>[]
 | x::xs=>wq x::Ea xs
end
theorem NQ:∀l:List Expr,Ea l=l.map wq
 | []=>rfl
 | x::xs=>by simp[Ea,NQ xs]
theorem Br (x:Expr):wq x = .agg [.int .i64 x.kind,.int .i64 x.op,.int .i64 x.t,.int .i64 x.v,.str x.name,.list false (x.args.map wq)]:=by cases x; simp[wq,NQ,Expr.kind,Expr.op,Expr.t,Expr.v,Expr.name,Expr.args]
@[simp] theorem c43 (x:Expr):(wq x).cells=[.int .i64 x.kind,.int .i64 x.op,.int .i64 x.t,.int .i64 x.v,.str x.name,.list false (x.args.map wq)]:=by rw[Br]; rfl
@[simp] theorem d0J (x:Expr):cp (wq x)=some (wq x):=by rw[Br]; rfl
@[simp] theorem c8D (x:Expr):tkv (wq x)=some (wq x,false):=by rw[Br]; rfl
@[simp] theorem c1z (x:Expr):An (wq x)=some (wq x).cells:=by rw[Br]; rfl
@[simp] theorem c0x (x:Expr):dem (wq x)=wq x:=by rw[Br]; rfl
@[simp] theorem c6N (x:Expr):zy (wq x)=wq x:=by rw[Br]; rfl
@[simp] theorem c6O (x:Expr):xt (wq x)=none:=by rw[Br]; rfl
@[simp] theorem b86 (x:Expr):PV.agg [.int .i64 x.kind,.int .i64 x.op,.int .i64 x.t,.int .i64 x.v,.str x.name,.list false (x.args.map wq)]=wq x:=(Br x).symm
@[simp] theorem c6P (h:List PObj) (x:Expr):xF h (wq x)=some (wq x):=by
 rw[Br]; simp[-b86]
@[simp] theorem c8E (l:List Expr):xf 6 (l.map wq)=true:=by cases l<;>simp
structure Eqn where
 left:List Str
 right:Expr
 deriving Inhabited
def wH (x:Eqn):PV := .agg [.list false (x.left.map PV.str),.int .i64 x.right.kind,.int .i64 x.right.op,.int .i64 x.right.t,.int .i64 x.right.v,.str x.right.name,.list false (x.right.args.map wq)]
theorem G6 (x:Eqn):wH x = .agg [.list false (x.left.map PV.str),.int .i64 x.right.kind,.int .i64 x.right.op,.int .i64 x.right.t,.int .i64 x.right.v,.str x.right.name,.list false (x.right.args.map wq)]:=rfl
@[simp] theorem c6Q (x:Eqn):(wH x).cells=[.list false (x.left.map PV.str),.int .i64 x.right.kind,.int .i64 x.right.op,.int .i64 x.right.t,.int .i64 x.right.v,.str x.right.name,.list false (x.right.args.map wq)]:=rfl
@[simp] theorem d2d (x:Eqn):cp (wH x)=some (wH x):=rfl
@[simp] theorem d0K (x:Eqn):tkv (wH x)=some (wH x,false):=rfl
@[simp] theorem c2g (x:Eqn):An (wH x)=some (wH x).cells:=rfl
@[simp] theorem d0L (x:Eqn):dem (wH x)=wH x:=rfl
@[simp] theorem c8F (x:Eqn):zy (wH x)=wH x:=rfl
@[simp] theorem c8G (x:Eqn):xt (wH x)=none:=rfl
@[simp] theorem Ka (x:Eqn):PV.agg [.list false (x.left.map PV.str),.int .i64 x.right.kind,.int .i64 x.right.op,.int .i64 x.right.t,.int .i64 x.right.v,.str x.right.name,.list false (x.right.args.map wq)]=wH x:=(G6 x).symm
@[simp] theorem c8H (h:List PObj) (x:Eqn):xF h (wH x)=some (wH x):=by
 rw[G6]; simp[-Ka]
@[simp] theorem d0M (l:List Eqn):xf 7 (l.map wH)=true:=by cases l<;>simp
structure Trn where
 cond:Expr
 to:Int
 resume:Bool
 deriving Inhabited
def xe (x:Trn):PV := .agg [.int .i64 x.cond.kind,.int .i64 x.cond.op,.int .i64 x.cond.t,.int .i64 x.cond.v,.str x.cond.name,.list false (x.cond.args.map wq),.int .i64 x.to,.bool x.resume]
theorem G7 (x:Trn):xe x = .agg [.int .i64 x.cond.kind,.int .i64 x.cond.op,.int .i64 x.cond.t,.int .i64 x.cond.v,.str x.cond.name,.list false (x.cond.args.map wq),.int .i64 x.to,.bool x.resume]:=rfl
@[simp] theorem c6R (x:Trn):(xe x).cells=[.int .i64 x.cond.kind,.int .i64 x.cond.op,.int .i64 x.cond.t,.int .i64 x.cond.v,.str x.cond.name,.list false (x.cond.args.map wq),.int .i64 x.to,.bool x.resume]:=rfl
@[simp] theorem d2e (x:Trn):cp (xe x)=some (xe x):=rfl
@[simp] theorem d0N (x:Trn):tkv (xe x)=some (xe x,false):=rfl
@[simp] theorem c2h (x:Trn):An (xe x)=some (xe x).cells:=rfl
@[simp] theorem d0O (x:Trn):dem (xe x)=xe x:=rfl
@[simp] theorem c8I (x:Trn):zy (xe x)=xe x:=rfl
@[simp] theorem c8J (x:Trn):xt (xe x)=none:=rfl
@[simp] theorem Kb (x:Trn):PV.agg [.int .i64 x.cond.kind,.int .i64 x.cond.op,.int .i64 x.cond.t,.int .i64 x.cond.v,.str x.cond.name,.list false (x.cond.args.map wq),.int .i64 x.to,.bool x.resume]=xe x:=(G7 x).symm
@[simp] theorem c8K (h:List PObj) (x:Trn):xF h (xe x)=some (xe x):=by
 rw[G7]; simp[-Kb]
@[simp] theorem d0P (l:List Trn):xf 8 (l.map xe)=true:=by cases l<;>simp
inductive State where
 | mk (name:Str) (locals:List Decl) (eqs:List Eqn) (autos:List (List State)) (unl:List Trn) (til:List Trn)
instance:Inhabited State:=⟨.mk [] [] [] [] [] []⟩
def State.name:State→Str | .mk x _ _ _ _ _=>x
@[simp] theorem State.name_mk (name:Str) (locals:List Decl) (eqs:List Eqn) (autos:List (List State)) (unl:List Trn) (til:List Trn):(State.mk name locals eqs autos unl til).name=name:=rfl
def State.locals:State→List Decl | .mk _ x _ _ _ _=>x
@[simp] theorem State.locals_mk (name:Str) (locals:List Decl) (eqs:List Eqn) (autos:List (List State)) (unl:List Trn) (til:List Trn):(State.mk name locals eqs autos unl til).locals=locals:=rfl
def State.eqs:State→List Eqn | .mk _ _ x _ _ _=>x
@[simp] theorem State.eqs_mk (name:Str) (locals:List Decl) (eqs:List Eqn) (autos:List (List State)) (unl:List Trn) (til:List Trn):(State.mk name locals eqs autos unl til).eqs=eqs:=rfl
def State.autos:State→List (List State) | .mk _ _ _ x _ _=>x
@[simp] theorem State.autos_mk (name:Str) (locals:List Decl) (eqs:List Eqn) (autos:List (List State)) (unl:List Trn) (til:List Trn):(State.mk name locals eqs autos unl til).autos=autos:=rfl
def State.unl:State→List Trn | .mk _ _ _ _ x _=>x
@[simp] theorem State.unl_mk (name:Str) (locals:List Decl) (eqs:List Eqn) (autos:List (List State)) (unl:List Trn) (til:List Trn):(State.mk name locals eqs autos unl til).unl=unl:=rfl
def State.til:State→List Trn | .mk _ _ _ _ _ x=>x
@[simp] theorem State.til_mk (name:Str) (locals:List Decl) (eqs:List Eqn) (autos:List (List State)) (unl:List Trn) (til:List Trn):(State.mk name locals eqs autos unl til).til=til:=rfl
abbrev zt:=List State
mutual
def wX:State→PV
 | .mk n l e a u w => .agg [.str n,.list false (l.map wv),.list false (e.map wH),.list false (Eb a),.list false (u.map xe),.list false (w.map xe)]
def Ec:List State→List PV
 | []=>[]
 | x::xs=>wX x::Ec xs
def Eb:List (List State)→List PV
 | []=>[]
 | x::xs => .agg [.list false (Ec x)]::Eb xs
end
def wI (a:zt):PV := .agg [.list false (a.map wX)]
theorem NS:∀l:List State,Ec l=l.map wX
 | []=>rfl
 | x::xs=>by simp[Ec,NS xs]
theorem NT:∀l:List (List State),Eb l=l.map wI
 | []=>rfl
 | x::xs=>by simp[Eb,NT xs,NS,wI]
theorem BY (x:State):wX x = .agg [.str x.name,.list false (x.locals.map wv),.list false (x.eqs.map wH),.list false (x.autos.map wI),.list false (x.unl.map xe),.list false (x.til.map xe)]:=by cases x; simp[wX,NT]
@[simp] theorem Kc (x:State):(wX x).cells=[.str x.name,.list false (x.locals.map wv),.list false (x.eqs.map wH),.list false (x.autos.map wI),.list false (x.unl.map xe),.list false (x.til.map xe)]:=by rw[BY]; rfl
@[simp] theorem c8L (x:State):cp (wX x)=some (wX x):=by rw[BY]; rfl
@[simp] theorem c6S (x:State):tkv (wX x)=some (wX x,false):=by rw[BY]; rfl
@[simp] theorem c0y (x:State):An (wX x)=some (wX x).cells:=by rw[BY]; rfl
@[simp] theorem c6T (x:State):dem (wX x)=wX x:=by rw[BY]; rfl
@[simp] theorem c44 (x:State):zy (wX x)=wX x:=by rw[BY]; rfl
@[simp] theorem c46 (x:State):xt (wX x)=none:=by rw[BY]; rfl
@[simp] theorem b7h (x:State):PV.agg [.str x.name,.list false (x.locals.map wv),.list false (x.eqs.map wH),.list false (x.autos.map wI),.list false (x.unl.map xe),.list false (x.til.map xe)]=wX x:=(BY x).symm
@[simp] theorem c47 (h:List PObj) (x:State):xF h (wX x)=some (wX x):=by
 rw[BY]; simp[-b7h]
@[simp] theorem c6U (l:List State):xf 6 (l.map wX)=true:=by cases l<;>simp
theorem NU (x:zt):wI x = .agg [.list false (x.map wX)]:=rfl
@[simp] theorem c48 (x:zt):(wI x).cells=[.list false (x.map wX)]:=rfl
@[simp] theorem d0Q (x:zt):cp (wI x)=some (wI x):=rfl
@[simp] theorem c8M (x:zt):tkv (wI x)=some (wI x,false):=rfl
@[simp] theorem c1A (x:zt):An (wI x)=some (wI x).cells:=rfl
@[simp] theorem c8N (x:zt):dem (wI x)=wI x:=rfl
@[simp] theorem c6V (x:zt):zy (wI x)=wI x:=rfl
@[simp] theorem c6W (x:zt):xt (wI x)=none:=rfl
@[simp] theorem NV (x:zt):PV.agg [.list false (x.map wX)]=wI x:=rfl
@[simp] theorem c6X (h:List PObj) (x:zt):xF h (wI x)=some (wI x):=by
 rw[NU]; simp[-NV]
@[simp] theorem c8O (l:List zt):xf 1 (l.map wI)=true:=by cases l<;>simp
structure Node where
 name:Str
 ins:List Decl
 outs:List Decl
 locals:List Decl
 eqs:List Eqn
 autos:List (List State)
 assume:List Expr
 ensure:List Expr
 deriving Inhabited
def wA (x:Node):PV := .agg [.str x.name,.list false (x.ins.map wv),.list false (x.outs.map wv),.list false (x.locals.map wv),.list false (x.eqs.map wH),.list false (x.autos.map wI),.list false (x.assume.map wq),.list false (x.ensure.map wq)]
theorem NX (x:Node):wA x = .agg [.str x.name,.list false (x.ins.map wv),.list false (x.outs.map wv),.list false (x.locals.map wv),.list false (x.eqs.map wH),.list false (x.autos.map wI),.list false (x.assume.map wq),.list false (x.ensure.map wq)]:=rfl
@[simp] theorem c49 (x:Node):(wA x).cells=[.str x.name,.list false (x.ins.map wv),.list false (x.outs.map wv),.list false (x.locals.map wv),.list false (x.eqs.map wH),.list false (x.autos.map wI),.list false (x.assume.map wq),.list false (x.ensure.map wq)]:=rfl
@[simp] theorem d0R (x:Node):cp (wA x)=some (wA x):=rfl
@[simp] theorem c8P (x:Node):tkv (wA x)=some (wA x,false):=rfl
@[simp] theorem c1B (x:Node):An (wA x)=some (wA x).cells:=rfl
@[simp] theorem c8Q (x:Node):dem (wA x)=wA x:=rfl
@[simp] theorem c6Y (x:Node):zy (wA x)=wA x:=rfl
@[simp] theorem c6Z (x:Node):xt (wA x)=none:=rfl
@[simp] theorem NY (x:Node):PV.agg [.str x.name,.list false (x.ins.map wv),.list false (x.outs.map wv),.list false (x.locals.map wv),.list false (x.eqs.map wH),.list false (x.autos.map wI),.list false (x.assume.map wq),.list false (x.ensure.map wq)]=wA x:=rfl
@[simp] theorem c60 (h:List PObj) (x:Node):xF h (wA x)=some (wA x):=by
 rw[NX]; simp[-NY]
@[simp] theorem c8R (l:List Node):xf 8 (l.map wA)=true:=by cases l<;>simp
structure Prog where
 enums:List Enum
 nodes:List Node
 deriving Inhabited
def xd (x:Prog):PV := .agg [.list false (x.enums.map wE),.list false (x.nodes.map wA)]
theorem NZ (x:Prog):xd x = .agg [.list false (x.enums.map wE),.list false (x.nodes.map wA)]:=rfl
@[simp] theorem c5a (x:Prog):(xd x).cells=[.list false (x.enums.map wE),.list false (x.nodes.map wA)]:=rfl
@[simp] theorem d0S (x:Prog):cp (xd x)=some (xd x):=rfl
@[simp] theorem c8S (x:Prog):tkv (xd x)=some (xd x,false):=rfl
@[simp] theorem c1C (x:Prog):An (xd x)=some (xd x).cells:=rfl
@[simp] theorem c8T (x:Prog):dem (xd x)=xd x:=rfl
@[simp] theorem c61 (x:Prog):zy (xd x)=xd x:=rfl
@[simp] theorem c62 (x:Prog):xt (xd x)=none:=rfl
@[simp] theorem N1 (x:Prog):PV.agg [.list false (x.enums.map wE),.list false (x.nodes.map wA)]=xd x:=rfl
@[simp] theorem c63 (h:List PObj) (x:Prog):xF h (xd x)=some (xd x):=by
 rw[NZ]; simp[-N1]
@[simp] theorem c8U (l:List Prog):xf 2 (l.map xd)=true:=by cases l<;>simp
mutual
theorem N2:∀x:Expr,wN (wq x)=true
 | .mk k o t v n as=>by simp only[wq,wN,wK,N3 as,ci]
theorem N3:∀l:List Expr,wK (Ea l)=true
 | []=>rfl
 | x::xs=>by simp only[Ea,wK,N2 x,N3 xs,ci]
end
@[simp] theorem b87 (x:Expr):wN (wq x)=true:=N2 x
@[simp] theorem c8V (l:List Expr):wK (l.map wq)=true:=A6 b87 l
@[simp] theorem c2j (x:On):wN (eOn x)=true:=rfl
@[simp] theorem d2f (l:List On):wK (l.map eOn)=true:=A6 c2j l
@[simp] theorem b88 (x:Decl):wN (wv x)=true:=by rw[G5]; simp[-NO]
@[simp] theorem c0z (l:List Decl):wK (l.map wv)=true:=A6 b88 l
@[simp] theorem b89 (x:Enum):wN (wE x)=true:=by rw[J9]; simp[-NP]
@[simp] theorem c8W (l:List Enum):wK (l.map wE)=true:=A6 b89 l
@[simp] theorem c0A (x:Eqn):wN (wH x)=true:=by rw[G6]; simp[-Ka]
@[simp] theorem c2k (l:List Eqn):wK (l.map wH)=true:=A6 c0A l
@[simp] theorem c0B (x:Trn):wN (xe x)=true:=by rw[G7]; simp[-Kb]
@[simp] theorem c2l (l:List Trn):wK (l.map xe)=true:=A6 c0B l
mutual
theorem N4:∀x:State,wN (wX x)=true
 | .mk n l e a u w=>by simp only[wX,wN,wK,c0z,c2k,c2l,N5 a,ci]
theorem N6:∀l:List State,wK (Ec l)=true
 | []=>rfl
 | x::xs=>by simp only[Ec,wK,N4 x,N6 xs,ci]
theorem N5:∀l:List (List State),wK (Eb l)=true
 | []=>rfl
 | x::xs=>by simp only[Eb,wK,wN,N6 x,N5 xs,ci]
end
@[simp] theorem b7i (x:State):wN (wX x)=true:=N4 x
@[simp] theorem b9a (l:List State):wK (l.map wX)=true:=A6 b7i l
@[simp] theorem b9b (x:zt):wN (wI x)=true:=by simp[NU,-NV]
@[simp] theorem c8X (l:List zt):wK (l.map wI)=true:=A6 b9b l
@[simp] theorem b9c (x:Node):wN (wA x)=true:=by rw[NX]; simp[-NY]
@[simp] theorem c8Y (l:List Node):wK (l.map wA)=true:=A6 b9c l
@[simp] theorem c64 (x:Prog):wN (xd x)=true:=by rw[NZ]; simp[-N1]
end Sc
end PI
