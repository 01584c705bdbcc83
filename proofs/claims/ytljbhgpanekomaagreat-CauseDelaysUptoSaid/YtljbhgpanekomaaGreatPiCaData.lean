import Derived.Test.YtljbhgpanekomaaGreatPiWp
set_option linter.unusedSimpArgs false
namespace PI
open Go (IntKind BinOp UnOp)
attribute [simp] wq AH Ag
@[simp] theorem c8w (s:Nat):w6 s []=true:=rfl
@[simp] theorem c6A (s:Nat) (e:PV) (r:List PV):w6 s (e::r)=(e.cells.length==s):=rfl
@[simp] theorem c8x (b:Bool):(PV.bool b).cells=[.bool b]:=rfl
@[simp] theorem d0e (k:IntKind) (n:Int):(PV.int k n).cells=[.int k n]:=rfl
@[simp] theorem cells_str (s:List UInt8):(PV.str s).cells=[.str s]:=rfl
@[simp] theorem c8y (o:Bool) (s:List PV):(PV.list o s).cells=[.list o s]:=rfl
@[simp] theorem d0f (b:Bool):(PV.bool b).flat=true:=rfl
@[simp] theorem d2v (k:IntKind) (n:Int):(PV.int k n).flat=true:=rfl
@[simp] theorem d2w (s:List UInt8):(PV.str s).flat=true:=rfl
@[simp] theorem d0g (o:Bool) (s:List PV):(PV.list o s).flat=true:=rfl
@[simp] theorem d2x (n o:Nat):(PV.ptr n o).flat=true:=rfl
@[simp] theorem c6B:PV.nilptr.flat=true:=rfl
@[simp] theorem d2y (n:Option Nat):(PV.map n).flat=true:=rfl
@[simp] theorem d0h (n s:Nat) (a:Bool) (l:Nat):(PV.rowp n s a l).flat=true:=rfl
@[simp] theorem d2z (op:BinOp) (h1:op≠.shl) (h2:op≠.shr) (k:IntKind) (a b:Int):Bq op (.int k a) (.int k b)=EQ op k a b:=by cases op<;>simp_all [Bq]
@[simp] theorem d2A (op:BinOp) (a b:List UInt8):Bq op (.str a) (.str b)=ER op a b:=by cases op<;>rfl
@[simp] theorem wF (i:Nat) (h:i<9223372036854775807):IntKind.i64.wrap ((i:Int)+1)=((i+1:Nat):Int):=by
 show (if (true&&decide (((i:Int)+1) % 18446744073709551616≥9223372036854775808))=true then((i:Int)+1) % 18446744073709551616 - 18446744073709551616 else((i:Int)+1) % 18446744073709551616)=_
 simp only[cr,aw]
 split<;>omega
theorem CP (n:Int) (h1 : -9223372036854775808≤n) (h2:n≤9223372036854775807):IntKind.i64.wrap n=n:=by
 show (if (true&&decide (n % 18446744073709551616≥9223372036854775808))=true then n % 18446744073709551616 - 18446744073709551616 else n % 18446744073709551616)=_
 simp only[cr,aw]
 split<;>omega
theorem Hg (l:List PV):wz l=l.all wB:=by induction l<;>simp_all
@[simp] theorem c5r (a b:List PV):wz (a++b)=(wz a&&wz b):=by simp[Hg,ct]
@[simp] theorem c8z (l:List PV) (n:Nat) (h:wz l=true):wz (l.take n)=true:=by
 rw[Hg,aK] at *
 exact λx hx=>h x (List.mem_of_mem_take hx)
@[simp] theorem c8A (l:List PV) (n:Nat) (h:wz l=true):wz (l.drop n)=true:=by
 rw[Hg,aK] at *
 exact λx hx=>h x (cA hx)
theorem Bi {α:Type} {f:α→PV} (h:∀x,wB (f x)=true) (l:List α):wz (l.map f)=true:=by
 rw[Hg,aK]; intro x hx; obtain⟨y,_,rfl⟩:=bc.1 hx; exact h y
@[simp] theorem d0i (l:List (List UInt8)):wz (l.map PV.str)=true:=Bi (λ_=>rfl) l
@[simp] theorem d0j (l:List (List UInt8)):w6 1 (l.map PV.str)=true:=by cases l<;>simp
@[simp] theorem d0k (l:List Int):wz (l.map (PV.int .i64))=true:=Bi (λ_=>rfl) l
@[simp] theorem d0l (l:List Int):w6 1 (l.map (PV.int .i64))=true:=by cases l<;>simp
namespace Sc
abbrev Str:=List UInt8
structure On where
 name:Str
 t:Int
 tag:Int
 deriving Inhabited,DecidableEq
def eOn (x:On):PV := .agg [.str x.name,.int .i64 x.t,.int .i64 x.tag]
theorem Ns (x:On):eOn x = .agg [.str x.name,.int .i64 x.t,.int .i64 x.tag]:=rfl
@[simp] theorem d0m (x:On):(eOn x).cells=[.str x.name,.int .i64 x.t,.int .i64 x.tag]:=rfl
@[simp] theorem d5k (x:On):cp (eOn x)=some (eOn x):=rfl
@[simp] theorem d4f (x:On):tkv (eOn x)=some (eOn x,false):=rfl
@[simp] theorem c5s (x:On):Ax (eOn x)=some (eOn x).cells:=rfl
@[simp] theorem d4g (x:On):dem (eOn x)=eOn x:=rfl
@[simp] theorem d2B (x:On):zj (eOn x)=eOn x:=rfl
@[simp] theorem d2C (x:On):xi (eOn x)=none:=rfl
@[simp] theorem c3H (x:On):PV.agg [.str x.name,.int .i64 x.t,.int .i64 x.tag]=eOn x:=(Ns x).symm
@[simp] theorem d2D (h:List PObj) (x:On):xF h (eOn x)=some (eOn x):=by
 rw[Ns]; simp[-c3H]
@[simp] theorem d4h (l:List On):w6 3 (l.map eOn)=true:=by cases l<;>simp
@[simp] theorem d5l (x y:On):peq true [.s,.i,.i] (eOn x) (eOn y)=some (decide (x=y)):=by
 cases x; cases y
 simp only[eOn,peq,if_true,yO,zi,an,aB,aa,On.mk.injEq,bQ]
 rw[aS]; simp
structure Decl where
 name:Str
 type:Int
 clock:List On
 deriving Inhabited,DecidableEq
def wo (x:Decl):PV := .agg [.str x.name,.int .i64 x.type,.list false (x.clock.map eOn)]
theorem Hh (x:Decl):wo x = .agg [.str x.name,.int .i64 x.type,.list false (x.clock.map eOn)]:=rfl
@[simp] theorem c6C (x:Decl):(wo x).cells=[.str x.name,.int .i64 x.type,.list false (x.clock.map eOn)]:=rfl
@[simp] theorem d2E (x:Decl):cp (wo x)=some (wo x):=rfl
@[simp] theorem d0n (x:Decl):tkv (wo x)=some (wo x,false):=rfl
@[simp] theorem c3f (x:Decl):Ax (wo x)=some (wo x).cells:=rfl
@[simp] theorem d0o (x:Decl):dem (wo x)=wo x:=rfl
@[simp] theorem c8B (x:Decl):zj (wo x)=wo x:=rfl
@[simp] theorem c8C (x:Decl):xi (wo x)=none:=rfl
@[simp] theorem Nt (x:Decl):PV.agg [.str x.name,.int .i64 x.type,.list false (x.clock.map eOn)]=wo x:=(Hh x).symm
@[simp] theorem c8D (h:List PObj) (x:Decl):xF h (wo x)=some (wo x):=by
 rw[Hh]; simp[-Nt]
@[simp] theorem d0p (l:List Decl):w6 3 (l.map wo)=true:=by cases l<;>simp
structure Enum where
 name:Str
 tags:List Str
 deriving Inhabited,DecidableEq
def wA (x:Enum):PV := .agg [.str x.name,.list false (x.tags.map PV.str)]
theorem J0 (x:Enum):wA x = .agg [.str x.name,.list false (x.tags.map PV.str)]:=rfl
@[simp] theorem c6D (x:Enum):(wA x).cells=[.str x.name,.list false (x.tags.map PV.str)]:=rfl
@[simp] theorem d2F (x:Enum):cp (wA x)=some (wA x):=rfl
@[simp] theorem d0q (x:Enum):tkv (wA x)=some (wA x,false):=rfl
@[simp] theorem c3g (x:Enum):Ax (wA x)=some (wA x).cells:=rfl
@[simp] theorem d0r (x:Enum):dem (wA x)=wA x:=rfl
@[simp] theorem c8E (x:Enum):zj (wA x)=wA x:=rfl
@[simp] theorem c8F (x:Enum):xi (wA x)=none:=rfl
@[simp] theorem Nu (x:Enum):PV.agg [.str x.name,.list false (x.tags.map PV.str)]=wA x:=(J0 x).symm
@[simp] theorem c8G (h:List PObj) (x:Enum):xF h (wA x)=some (wA x):=by
 rw[J0]; simp[-Nu]
@[simp] theorem d0s (l:List Enum):w6 2 (l.map wA)=true:=by cases l<;>simp
inductive Expr where
 | mk (kind:Int) (op:Int) (t:Int) (v:Int) (name:Str) (args:List Expr)
instance:Inhabited Expr:=⟨.mk 0 0 0 0 [] []⟩
def Expr.kind:Expr→Int | .mk x _ _ _ _ _=>x
@[simp] theorem Expr.kind_mk (kind:Int) (op:Int) (t:Int) (v:Int) (name:Str) (args:List Expr):(Expr.mk kind op t v name args).kind=kind:=rfl
def Expr.op:Expr→Int | .mk _ x _ _ _ _=>x
@[simp] theorem Expr.op_mk (kind:Int) (op:Int) (t:Int) (v:Int) (name:Str) (args:List Expr):(Expr.mk kind op t v name args).op=op:=rfl
def Expr.t:Expr→Int | .mk _ _ x _ _ _=>x
@[simp] theorem Expr.t_mk (kind:Int) (op:Int) (t:Int) (v:Int) (name:Str) (args:List Expr):(Expr.mk kind op t v name args).t=t:=rfl
def Expr.v:Expr→Int | .mk _ _ _ x _ _=>x
@[simp] theorem Expr.v_mk (kind:Int) (op:Int) (t:Int) (v:Int) (name:Str) (args:List Expr):(Expr.mk kind op t v name args).v=v:=rfl
def Expr.name:Expr→Str | .mk _ _ _ _ x _=>x
@[simp] theorem Expr.name_mk (kind:Int) (op:Int) (t:Int) (v:Int) (name:Str) (args:List Expr):(Expr.mk kind op t v name args).name=name:=rfl
def Expr.args:Expr→List Expr | .mk _ _ _ _ _ x=>x
@[simp] theorem Expr.args_mk (kind:Int) (op:Int) (t:Int) (v:Int) (name:Str) (args:List Expr):(Expr.mk kind op t v name args).args=args:=rfl
mutual
def wl:Expr→PV
 | .mk k o t v n as => .agg [.int .i64 k,.int .i64 o,.int .i64 t,.int .i64 v,.str n,.list false (D3 as)]
def D3:List Expr→List PV
 | []=>[]
 | x::xs=>wl x::D3 xs
end
theorem Nv:∀l:List Expr,D3 l=l.map wl
 | []=>rfl
 | x::xs=>by simp[D3,Nv xs]
theorem Ay (x:Expr):wl x = .agg [.int .i64 x.kind,.int .i64 x.op,.int .i64 x.t,.int .i64 x.v,.str x.name,.list false (x.args.map wl)]:=by cases x; simp[wl,Nv,Expr.kind,Expr.op,Expr.t,Expr.v,Expr.name,Expr.args]
@[simp] theorem c6E (x:Expr):(wl x).cells=[.int .i64 x.kind,.int .i64 x.op,.int .i64 x.t,.int .i64 x.v,.str x.name,.list false (x.args.map wl)]:=by rw[Ay]; rfl
@[simp] theorem d2G (x:Expr):cp (wl x)=some (wl x):=by rw[Ay]; rfl
@[simp] theorem d0t (x:Expr):tkv (wl x)=some (wl x,false):=by rw[Ay]; rfl
@[simp] theorem c3h (x:Expr):Ax (wl x)=some (wl x).cells:=by rw[Ay]; rfl
@[simp] theorem c1v (x:Expr):dem (wl x)=wl x:=by rw[Ay]; rfl
@[simp] theorem c8H (x:Expr):zj (wl x)=wl x:=by rw[Ay]; rfl
@[simp] theorem c8I (x:Expr):xi (wl x)=none:=by rw[Ay]; rfl
@[simp] theorem c0a (x:Expr):PV.agg [.int .i64 x.kind,.int .i64 x.op,.int .i64 x.t,.int .i64 x.v,.str x.name,.list false (x.args.map wl)]=wl x:=(Ay x).symm
@[simp] theorem c8J (h:List PObj) (x:Expr):xF h (wl x)=some (wl x):=by
 rw[Ay]; simp[-c0a]
@[simp] theorem d0u (l:List Expr):w6 6 (l.map wl)=true:=by cases l<;>simp
structure Eqn where
 left:List Str
 right:Expr
 deriving Inhabited
def wX (x:Eqn):PV := .agg [.list false (x.left.map PV.str),.int .i64 x.right.kind,.int .i64 x.right.op,.int .i64 x.right.t,.int .i64 x.right.v,.str x.right.name,.list false (x.right.args.map wl)]
theorem D4 (x:Eqn):wX x = .agg [.list false (x.left.map PV.str),.int .i64 x.right.kind,.int .i64 x.right.op,.int .i64 x.right.t,.int .i64 x.right.v,.str x.right.name,.list false (x.right.args.map wl)]:=rfl
@[simp] theorem c8K (x:Eqn):(wX x).cells=[.list false (x.left.map PV.str),.int .i64 x.right.kind,.int .i64 x.right.op,.int .i64 x.right.t,.int .i64 x.right.v,.str x.right.name,.list false (x.right.args.map wl)]:=rfl
@[simp] theorem d4i (x:Eqn):cp (wX x)=some (wX x):=rfl
@[simp] theorem d2H (x:Eqn):tkv (wX x)=some (wX x,false):=rfl
@[simp] theorem c3I (x:Eqn):Ax (wX x)=some (wX x).cells:=rfl
@[simp] theorem d2I (x:Eqn):dem (wX x)=wX x:=rfl
@[simp] theorem d0v (x:Eqn):zj (wX x)=wX x:=rfl
@[simp] theorem d0w (x:Eqn):xi (wX x)=none:=rfl
@[simp] theorem J1 (x:Eqn):PV.agg [.list false (x.left.map PV.str),.int .i64 x.right.kind,.int .i64 x.right.op,.int .i64 x.right.t,.int .i64 x.right.v,.str x.right.name,.list false (x.right.args.map wl)]=wX x:=(D4 x).symm
@[simp] theorem d0x (h:List PObj) (x:Eqn):xF h (wX x)=some (wX x):=by
 rw[D4]; simp[-J1]
@[simp] theorem d2J (l:List Eqn):w6 7 (l.map wX)=true:=by cases l<;>simp
structure Trn where
 cond:Expr
 to:Int
 resume:Bool
 deriving Inhabited
def xn (x:Trn):PV := .agg [.int .i64 x.cond.kind,.int .i64 x.cond.op,.int .i64 x.cond.t,.int .i64 x.cond.v,.str x.cond.name,.list false (x.cond.args.map wl),.int .i64 x.to,.bool x.resume]
theorem Fv (x:Trn):xn x = .agg [.int .i64 x.cond.kind,.int .i64 x.cond.op,.int .i64 x.cond.t,.int .i64 x.cond.v,.str x.cond.name,.list false (x.cond.args.map wl),.int .i64 x.to,.bool x.resume]:=rfl
@[simp] theorem c8L (x:Trn):(xn x).cells=[.int .i64 x.cond.kind,.int .i64 x.cond.op,.int .i64 x.cond.t,.int .i64 x.cond.v,.str x.cond.name,.list false (x.cond.args.map wl),.int .i64 x.to,.bool x.resume]:=rfl
@[simp] theorem d4j (x:Trn):cp (xn x)=some (xn x):=rfl
@[simp] theorem d2K (x:Trn):tkv (xn x)=some (xn x,false):=rfl
@[simp] theorem c3J (x:Trn):Ax (xn x)=some (xn x).cells:=rfl
@[simp] theorem d2L (x:Trn):dem (xn x)=xn x:=rfl
@[simp] theorem d0y (x:Trn):zj (xn x)=xn x:=rfl
@[simp] theorem d0z (x:Trn):xi (xn x)=none:=rfl
@[simp] theorem J2 (x:Trn):PV.agg [.int .i64 x.cond.kind,.int .i64 x.cond.op,.int .i64 x.cond.t,.int .i64 x.cond.v,.str x.cond.name,.list false (x.cond.args.map wl),.int .i64 x.to,.bool x.resume]=xn x:=(Fv x).symm
@[simp] theorem d0A (h:List PObj) (x:Trn):xF h (xn x)=some (xn x):=by
 rw[Fv]; simp[-J2]
@[simp] theorem d2M (l:List Trn):w6 8 (l.map xn)=true:=by cases l<;>simp
inductive State where
 | mk (name:Str) (locals:List Decl) (eqs:List Eqn) (autos:List (List State)) (unl:List Trn) (til:List Trn)
instance:Inhabited State:=⟨.mk [] [] [] [] [] []⟩
def State.name:State→Str | .mk x _ _ _ _ _=>x
@[simp] theorem State.name_mk (name:Str) (locals:List Decl) (eqs:List Eqn) (autos:List (List State)) (unl:List Trn) (til:List Trn):(State.mk name locals eqs autos unl til).name=name:=rfl
def State.locals:State→List Decl | .mk _ x _ _ _ _=>x
@[simp] theorem State.locals_mk (name:Str) (locals:List Decl) (eqs:List Eqn) (autos:List (List State)) (unl:List Trn) (til:List Trn):(State.mk name locals eqs autos unl til).locals=locals:=rfl
def State.eqs:State→List Eqn | .mk _ _ x _ _ _=>x
@[simp] theorem State.eqs_mk (name:Str) (locals:List Decl) (eqs:List Eqn) (autos:List (List State)) (unl:List Trn) (til:List Trn):(State.mk name locals eqs autos unl til).eqs=eqs:=rfl
def State.autos:State→List (List State) | .mk _ _ _ x _ _=>x
@[simp] theorem State.autos_mk (name:Str) (locals:List Decl) (eqs:List Eqn) (autos:List (List State)) (unl:List Trn) (til:List Trn):(State.mk name locals eqs autos unl til).autos=autos:=rfl
def State.unl:State→List Trn | .mk _ _ _ _ x _=>x
@[simp] theorem State.unl_mk (name:Str) (locals:List Decl) (eqs:List Eqn) (autos:List (List State)) (unl:List Trn) (til:List Trn):(State.mk name locals eqs autos unl til).unl=unl:=rfl
def State.til:State→List Trn | .mk _ _ _ _ _ x=>x
@[simp] theorem State.til_mk (name:Str) (locals:List Decl) (eqs:List Eqn) (autos:List (List State)) (unl:List Trn) (til:List Trn):(State.mk name locals eqs autos unl til).til=til:=rfl
abbrev zB:=List State
mutual
def wQ:State→PV
 | .mk n l e a u w => .agg [.str n,.list false (l.map wo),.list false (e.map wX),.list false (D5 a),.list false (u.map xn),.list false (w.map xn)]
def D6:List State→List PV
 | []=>[]
 | x::xs=>wQ x::D6 xs
def D5:List (List State)→List PV
 | []=>[]
 | x::xs => .agg [.list false (D6 x)]::D5 xs
end
def wY (a:zB):PV := .agg [.list false (a.map wQ)]
theorem Nw:∀l:List State,D6 l=l.map wQ
 | []=>rfl
 | x::xs=>by simp[D6,Nw xs]
theorem Nx:∀l:List (List State),D5 l=l.map wY
 | []=>rfl
 | x::xs=>by simp[D5,Nx xs,Nw,wY]
theorem Bv (x:State):wQ x = .agg [.str x.name,.list false (x.locals.map wo),.list false (x.eqs.map wX),.list false (x.autos.map wY),.list false (x.unl.map xn),.list false (x.til.map xn)]:=by cases x; simp[wQ,Nx]
@[simp] theorem J3 (x:State):(wQ x).cells=[.str x.name,.list false (x.locals.map wo),.list false (x.eqs.map wX),.list false (x.autos.map wY),.list false (x.unl.map xn),.list false (x.til.map xn)]:=by rw[Bv]; rfl
@[simp] theorem d0B (x:State):cp (wQ x)=some (wQ x):=by rw[Bv]; rfl
@[simp] theorem c8M (x:State):tkv (wQ x)=some (wQ x,false):=by rw[Bv]; rfl
@[simp] theorem c1w (x:State):Ax (wQ x)=some (wQ x).cells:=by rw[Bv]; rfl
@[simp] theorem c8N (x:State):dem (wQ x)=wQ x:=by rw[Bv]; rfl
@[simp] theorem c6F (x:State):zj (wQ x)=wQ x:=by rw[Bv]; rfl
@[simp] theorem c6G (x:State):xi (wQ x)=none:=by rw[Bv]; rfl
@[simp] theorem b8a (x:State):PV.agg [.str x.name,.list false (x.locals.map wo),.list false (x.eqs.map wX),.list false (x.autos.map wY),.list false (x.unl.map xn),.list false (x.til.map xn)]=wQ x:=(Bv x).symm
@[simp] theorem c6H (h:List PObj) (x:State):xF h (wQ x)=some (wQ x):=by
 rw[Bv]; simp[-b8a]
@[simp] theorem c8O (l:List State):w6 6 (l.map wQ)=true:=by cases l<;>simp
theorem Ny (x:zB):wY x = .agg [.list false (x.map wQ)]:=rfl
@[simp] theorem c6I (x:zB):(wY x).cells=[.list false (x.map wQ)]:=rfl
@[simp] theorem d2N (x:zB):cp (wY x)=some (wY x):=rfl
@[simp] theorem d0C (x:zB):tkv (wY x)=some (wY x,false):=rfl
@[simp] theorem c3j (x:zB):Ax (wY x)=some (wY x).cells:=rfl
@[simp] theorem d0D (x:zB):dem (wY x)=wY x:=rfl
@[simp] theorem c8P (x:zB):zj (wY x)=wY x:=rfl
@[simp] theorem c8Q (x:zB):xi (wY x)=none:=rfl
@[simp] theorem Nz (x:zB):PV.agg [.list false (x.map wQ)]=wY x:=rfl
@[simp] theorem c8R (h:List PObj) (x:zB):xF h (wY x)=some (wY x):=by
 rw[Ny]; simp[-Nz]
@[simp] theorem d0E (l:List zB):w6 1 (l.map wY)=true:=by cases l<;>simp
structure Node where
 name:Str
 ins:List Decl
 outs:List Decl
 locals:List Decl
 eqs:List Eqn
 autos:List (List State)
 assume:List Expr
 ensure:List Expr
 deriving Inhabited
def wE (x:Node):PV := .agg [.str x.name,.list false (x.ins.map wo),.list false (x.outs.map wo),.list false (x.locals.map wo),.list false (x.eqs.map wX),.list false (x.autos.map wY),.list false (x.assume.map wl),.list false (x.ensure.map wl)]
theorem J4 (x:Node):wE x = .agg [.str x.name,.list false (x.ins.map wo),.list false (x.outs.map wo),.list false (x.locals.map wo),.list false (x.eqs.map wX),.list false (x.autos.map wY),.list false (x.assume.map wl),.list false (x.ensure.map wl)]:=rfl
@[simp] theorem c6J (x:Node):(wE x).cells=[.str x.name,.list false (x.ins.map wo),.list false (x.outs.map wo),.list false (x.locals.map wo),.list false (x.eqs.map wX),.list false (x.autos.map wY),.list false (x.assume.map wl),.list false (x.ensure.map wl)]:=rfl
@[simp] theorem d2O (x:Node):cp (wE x)=some (wE x):=rfl
@[simp] theorem d0F (x:Node):tkv (wE x)=some (wE x,false):=rfl
@[simp] theorem c3k (x:Node):Ax (wE x)=some (wE x).cells:=rfl
@[simp] theorem d0G (x:Node):dem (wE x)=wE x:=rfl
@[simp] theorem c8S (x:Node):zj (wE x)=wE x:=rfl
@[simp] theorem c8T (x:Node):xi (wE x)=none:=rfl
@[simp] theorem NA (x:Node):PV.agg [.str x.name,.list false (x.ins.map wo),.list false (x.outs.map wo),.list false (x.locals.map wo),.list false (x.eqs.map wX),.list false (x.autos.map wY),.list false (x.assume.map wl),.list false (x.ensure.map wl)]=wE x:=rfl
@[simp] theorem c8U (h:List PObj) (x:Node):xF h (wE x)=some (wE x):=by
 rw[J4]; simp[-NA]
@[simp] theorem d0H (l:List Node):w6 8 (l.map wE)=true:=by cases l<;>simp
structure Prog where
 enums:List Enum
 nodes:List Node
 deriving Inhabited
def xw (x:Prog):PV := .agg [.list false (x.enums.map wA),.list false (x.nodes.map wE)]
theorem J5 (x:Prog):xw x = .agg [.list false (x.enums.map wA),.list false (x.nodes.map wE)]:=rfl
@[simp] theorem c6K (x:Prog):(xw x).cells=[.list false (x.enums.map wA),.list false (x.nodes.map wE)]:=rfl
@[simp] theorem d2P (x:Prog):cp (xw x)=some (xw x):=rfl
@[simp] theorem d0I (x:Prog):tkv (xw x)=some (xw x,false):=rfl
@[simp] theorem c3l (x:Prog):Ax (xw x)=some (xw x).cells:=rfl
@[simp] theorem d0J (x:Prog):dem (xw x)=xw x:=rfl
@[simp] theorem c8V (x:Prog):zj (xw x)=xw x:=rfl
@[simp] theorem c8W (x:Prog):xi (xw x)=none:=rfl
@[simp] theorem NB (x:Prog):PV.agg [.list false (x.enums.map wA),.list false (x.nodes.map wE)]=xw x:=rfl
@[simp] theorem c8X (h:List PObj) (x:Prog):xF h (xw x)=some (xw x):=by
 rw[J5]; simp[-NB]
@[simp] theorem d0K (l:List Prog):w6 2 (l.map xw)=true:=by cases l<;>simp
mutual
theorem NC:∀x:Expr,wB (wl x)=true
 | .mk k o t v n as=>by simp only[wl,wB,wz,ND as,bQ]
theorem ND:∀l:List Expr,wz (D3 l)=true
 | []=>rfl
 | x::xs=>by simp only[D3,wz,NC x,ND xs,bQ]
end
@[simp] theorem c0b (x:Expr):wB (wl x)=true:=NC x
@[simp] theorem d0L (l:List Expr):wz (l.map wl)=true:=Bi c0b l
@[simp] theorem c3K (x:On):wB (eOn x)=true:=rfl
@[simp] theorem d4k (l:List On):wz (l.map eOn)=true:=Bi c3K l
@[simp] theorem c0c (x:Decl):wB (wo x)=true:=by rw[Hh]; simp[-Nt]
@[simp] theorem c1x (l:List Decl):wz (l.map wo)=true:=Bi c0c l
@[simp] theorem c0d (x:Enum):wB (wA x)=true:=by rw[J0]; simp[-Nu]
@[simp] theorem d0M (l:List Enum):wz (l.map wA)=true:=Bi c0d l
@[simp] theorem c1y (x:Eqn):wB (wX x)=true:=by rw[D4]; simp[-J1]
@[simp] theorem c3L (l:List Eqn):wz (l.map wX)=true:=Bi c1y l
@[simp] theorem c1z (x:Trn):wB (xn x)=true:=by rw[Fv]; simp[-J2]
@[simp] theorem c3M (l:List Trn):wz (l.map xn)=true:=Bi c1z l
mutual
theorem NE:∀x:State,wB (wQ x)=true
 | .mk n l e a u w=>by simp only[wQ,wB,wz,c1x,c3L,c3M,NG a,bQ]
theorem NH:∀l:List State,wz (D6 l)=true
 | []=>rfl
 | x::xs=>by simp only[D6,wz,NE x,NH xs,bQ]
theorem NG:∀l:List (List State),wz (D5 l)=true
 | []=>rfl
 | x::xs=>by simp only[D5,wz,wB,NH x,NG xs,bQ]
end
@[simp] theorem b8b (x:State):wB (wQ x)=true:=NE x
@[simp] theorem c0e (l:List State):wz (l.map wQ)=true:=Bi b8b l
@[simp] theorem c0f (x:zB):wB (wY x)=true:=by simp[Ny,-Nz]
@[simp] theorem d0N (l:List zB):wz (l.map wY)=true:=Bi c0f l
@[simp] theorem c0g (x:Node):wB (wE x)=true:=by rw[J4]; simp[-NA]
@[simp] theorem d0O (l:List Node):wz (l.map wE)=true:=Bi c0g l
@[simp] theorem c8Y (x:Prog):wB (xw x)=true:=by rw[J5]; simp[-NB]
end Sc
end PI
