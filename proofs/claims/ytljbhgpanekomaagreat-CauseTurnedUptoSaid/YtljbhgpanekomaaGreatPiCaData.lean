import Derived.Test.YtljbhgpanekomaaGreatPiLaw
set_option linter.unusedSimpArgs false
namespace PI
open Go (IntKind BinOp UnOp)
attribute [simp] yh B8 B7
@[simp] theorem c9D (s:Nat):yU s []=true:=rfl
@[simp] theorem c7A (s:Nat) (e:PV) (r:List PV):yU s (e::r)=(e.cells.length==s):=rfl
@[simp] theorem c9E (b:Bool):(PV.bool b).cells=[.bool b]:=rfl
@[simp] theorem d1f (k:IntKind) (n:Int):(PV.int k n).cells=[.int k n]:=rfl
@[simp] theorem cells_str (s:List UInt8):(PV.str s).cells=[.str s]:=rfl
@[simp] theorem c9F (o:Bool) (s:List PV):(PV.list o s).cells=[.list o s]:=rfl
@[simp] theorem d1g (b:Bool):(PV.bool b).flat=true:=rfl
@[simp] theorem d3w (k:IntKind) (n:Int):(PV.int k n).flat=true:=rfl
@[simp] theorem d3x (s:List UInt8):(PV.str s).flat=true:=rfl
@[simp] theorem d1h (o:Bool) (s:List PV):(PV.list o s).flat=true:=rfl
@[simp] theorem d3y (n o:Nat):(PV.ptr n o).flat=true:=rfl
@[simp] theorem c7B:PV.nilptr.flat=true:=rfl
@[simp] theorem d3z (n:Option Nat):(PV.map n).flat=true:=rfl
@[simp] theorem d1i (n s:Nat) (a:Bool) (l:Nat):(PV.rowp n s a l).flat=true:=rfl
@[simp] theorem d3A (op:BinOp) (h1:op≠.shl) (h2:op≠.shr) (k:IntKind) (a b:Int):C8 op (.int k a) (.int k b)=GM op k a b:=by cases op<;>simp_all [C8]
@[simp] theorem d3B (op:BinOp) (a b:List UInt8):C8 op (.str a) (.str b)=GN op a b:=by cases op<;>rfl
@[simp] theorem yn (i:Nat) (h:i<9223372036854775807):IntKind.i64.wrap ((i:Int)+1)=((i+1:Nat):Int):=by
 show (if (true&&decide (((i:Int)+1) % 18446744073709551616≥9223372036854775808))=true then((i:Int)+1) % 18446744073709551616 - 18446744073709551616 else((i:Int)+1) % 18446744073709551616)=_
 simp only[cq,av]
 split<;>omega
theorem Eg (n:Int) (h1 : -9223372036854775808≤n) (h2:n≤9223372036854775807):IntKind.i64.wrap n=n:=by
 show (if (true&&decide (n % 18446744073709551616≥9223372036854775808))=true then n % 18446744073709551616 - 18446744073709551616 else n % 18446744073709551616)=_
 simp only[cq,av]
 split<;>omega
theorem Jw (l:List PV):yq l=l.all yt:=by induction l<;>simp_all
@[simp] theorem c6s (a b:List PV):yq (a++b)=(yq a&&yq b):=by simp[Jw,cr]
@[simp] theorem c9G (l:List PV) (n:Nat) (h:yq l=true):yq (l.take n)=true:=by
 rw[Jw,aJ] at *
 exact λx hx=>h x (List.mem_of_mem_take hx)
@[simp] theorem c9H (l:List PV) (n:Nat) (h:yq l=true):yq (l.drop n)=true:=by
 rw[Jw,aJ] at *
 exact λx hx=>h x (cI hx)
theorem CZ {α:Type} {f:α→PV} (h:∀x,yt (f x)=true) (l:List α):yq (l.map f)=true:=by
 rw[Jw,aJ]; intro x hx; obtain⟨y,_,rfl⟩:=bc.1 hx; exact h y
@[simp] theorem d1j (l:List (List UInt8)):yq (l.map PV.str)=true:=CZ (λ_=>rfl) l
@[simp] theorem d1k (l:List (List UInt8)):yU 1 (l.map PV.str)=true:=by cases l<;>simp
@[simp] theorem d1l (l:List Int):yq (l.map (PV.int .i64))=true:=CZ (λ_=>rfl) l
@[simp] theorem d1m (l:List Int):yU 1 (l.map (PV.int .i64))=true:=by cases l<;>simp
namespace Sc
abbrev Str:=List UInt8
structure On where
 name:Str
 t:Int
 tag:Int
 deriving Inhabited,DecidableEq
def eOn (x:On):PV := .agg [.str x.name,.int .i64 x.t,.int .i64 x.tag]
theorem Qa (x:On):eOn x = .agg [.str x.name,.int .i64 x.t,.int .i64 x.tag]:=rfl
@[simp] theorem d1n (x:On):(eOn x).cells=[.str x.name,.int .i64 x.t,.int .i64 x.tag]:=rfl
@[simp] theorem d6k (x:On):cp (eOn x)=some (eOn x):=rfl
@[simp] theorem d5b (x:On):tkv (eOn x)=some (eOn x,false):=rfl
@[simp] theorem c6t (x:On):CM (eOn x)=some (eOn x).cells:=rfl
@[simp] theorem d5c (x:On):dem (eOn x)=eOn x:=rfl
@[simp] theorem d3C (x:On):AK (eOn x)=eOn x:=rfl
@[simp] theorem d3D (x:On):zp (eOn x)=none:=rfl
@[simp] theorem c4L (x:On):PV.agg [.str x.name,.int .i64 x.t,.int .i64 x.tag]=eOn x:=(Qa x).symm
@[simp] theorem d3E (h:List PObj) (x:On):zN h (eOn x)=some (eOn x):=by
 rw[Qa]; simp[-c4L]
@[simp] theorem d5d (l:List On):yU 3 (l.map eOn)=true:=by cases l<;>simp
@[simp] theorem d6l (x y:On):peq true [.s,.i,.i] (eOn x) (eOn y)=some (decide (x=y)):=by
 cases x; cases y
 simp only[eOn,peq,if_true,A5,Bm,aw,aH,aa,On.mk.injEq,bu]
 rw[aR]; simp
structure Decl where
 name:Str
 type:Int
 clock:List On
 deriving Inhabited,DecidableEq
def yi (x:Decl):PV := .agg [.str x.name,.int .i64 x.type,.list false (x.clock.map eOn)]
theorem Jx (x:Decl):yi x = .agg [.str x.name,.int .i64 x.type,.list false (x.clock.map eOn)]:=rfl
@[simp] theorem c7C (x:Decl):(yi x).cells=[.str x.name,.int .i64 x.type,.list false (x.clock.map eOn)]:=rfl
@[simp] theorem d3F (x:Decl):cp (yi x)=some (yi x):=rfl
@[simp] theorem d1o (x:Decl):tkv (yi x)=some (yi x,false):=rfl
@[simp] theorem c4j (x:Decl):CM (yi x)=some (yi x).cells:=rfl
@[simp] theorem d1p (x:Decl):dem (yi x)=yi x:=rfl
@[simp] theorem c9I (x:Decl):AK (yi x)=yi x:=rfl
@[simp] theorem c9J (x:Decl):zp (yi x)=none:=rfl
@[simp] theorem Qb (x:Decl):PV.agg [.str x.name,.int .i64 x.type,.list false (x.clock.map eOn)]=yi x:=(Jx x).symm
@[simp] theorem c9K (h:List PObj) (x:Decl):zN h (yi x)=some (yi x):=by
 rw[Jx]; simp[-Qb]
@[simp] theorem d1q (l:List Decl):yU 3 (l.map yi)=true:=by cases l<;>simp
structure Enum where
 name:Str
 tags:List Str
 deriving Inhabited,DecidableEq
def yu (x:Enum):PV := .agg [.str x.name,.list false (x.tags.map PV.str)]
theorem MH (x:Enum):yu x = .agg [.str x.name,.list false (x.tags.map PV.str)]:=rfl
@[simp] theorem c7D (x:Enum):(yu x).cells=[.str x.name,.list false (x.tags.map PV.str)]:=rfl
@[simp] theorem d3G (x:Enum):cp (yu x)=some (yu x):=rfl
@[simp] theorem d1r (x:Enum):tkv (yu x)=some (yu x,false):=rfl
@[simp] theorem c4k (x:Enum):CM (yu x)=some (yu x).cells:=rfl
@[simp] theorem d1s (x:Enum):dem (yu x)=yu x:=rfl
@[simp] theorem c9L (x:Enum):AK (yu x)=yu x:=rfl
@[simp] theorem c9M (x:Enum):zp (yu x)=none:=rfl
@[simp] theorem Qc (x:Enum):PV.agg [.str x.name,.list false (x.tags.map PV.str)]=yu x:=(MH x).symm
@[simp] theorem c9N (h:List PObj) (x:Enum):zN h (yu x)=some (yu x):=by
 rw[MH]; simp[-Qc]
@[simp] theorem d1t (l:List Enum):yU 2 (l.map yu)=true:=by cases l<;>simp
inductive Expr where
 | mk (kind:Int) (op:Int) (t:Int) (v:Int) (name:Str) (args:List Expr)
instance:Inhabited Expr:=⟨.mk 0 0 0 0 [] []⟩
def Expr.kind:Expr→Int | .mk x _ _ _ _ _=>x
@[simp] theorem Expr.kind_mk (kind:Int) (op:Int) (t:Int) (v:Int) (name:Str) (args:List Expr):(Expr.mk kind op t v name args).kind=kind:=rfl
def Expr.op:Expr→Int | .mk _ x _ _ _ _=>x
@[simp] theorem Expr.op_mk (kind:Int) (op:Int) (t:Int) (v:Int) (name:Str) (args:List Expr):(Expr.mk kind op t v name args).op=op:=rfl
def Expr.t:Expr→Int | .mk _ _ x _ _ _=>x
@[simp] theorem Expr.t_mk (kind:Int) (op:Int) (t:Int) (v:Int) (name:Str) (args:List Expr):(Expr.mk kind op t v name args).t=t:=rfl
def Expr.v:Expr→Int | .mk _ _ _ x _ _=>x
@[simp] theorem Expr.v_mk (kind:Int) (op:Int) (t:Int) (v:Int) (name:Str) (args:List Expr):(Expr.mk kind op t v name args).v=v:=rfl
def Expr.name:Expr→Str | .mk _ _ _ _ x _=>x
@[simp] theorem Expr.name_mk (kind:Int) (op:Int) (t:Int) (v:Int) (name:Str) (args:List Expr):(Expr.mk kind op t v name args).name=name:=rfl
def Expr.args:Expr→List Expr | .mk _ _ _ _ _ x=>x
@[simp] theorem Expr.args_mk (kind:Int) (op:Int) (t:Int) (v:Int) (name:Str) (args:List Expr):(Expr.mk kind op t v name args).args=args:=rfl
mutual
def ye:Expr→PV
 | .mk k o t v n as => .agg [.int .i64 k,.int .i64 o,.int .i64 t,.int .i64 v,.str n,.list false (F4 as)]
def F4:List Expr→List PV
 | []=>[]
 | x::xs=>ye x::F4 xs
end
theorem Qd:∀l:List Expr,F4 l=l.map ye
 | []=>rfl
 | x::xs=>by simp[F4,Qd xs]
theorem Dd (x:Expr):ye x = .agg [.int .i64 x.kind,.int .i64 x.op,.int .i64 x.t,.int .i64 x.v,.str x.name,.list false (x.args.map ye)]:=by cases x; simp[ye,Qd,Expr.kind,Expr.op,Expr.t,Expr.v,Expr.name,Expr.args]
@[simp] theorem c7E (x:Expr):(ye x).cells=[.int .i64 x.kind,.int .i64 x.op,.int .i64 x.t,.int .i64 x.v,.str x.name,.list false (x.args.map ye)]:=by rw[Dd]; rfl
@[simp] theorem d3H (x:Expr):cp (ye x)=some (ye x):=by rw[Dd]; rfl
@[simp] theorem d1u (x:Expr):tkv (ye x)=some (ye x,false):=by rw[Dd]; rfl
@[simp] theorem c4l (x:Expr):CM (ye x)=some (ye x).cells:=by rw[Dd]; rfl
@[simp] theorem c2o (x:Expr):dem (ye x)=ye x:=by rw[Dd]; rfl
@[simp] theorem c9O (x:Expr):AK (ye x)=ye x:=by rw[Dd]; rfl
@[simp] theorem c9P (x:Expr):zp (ye x)=none:=by rw[Dd]; rfl
@[simp] theorem c00 (x:Expr):PV.agg [.int .i64 x.kind,.int .i64 x.op,.int .i64 x.t,.int .i64 x.v,.str x.name,.list false (x.args.map ye)]=ye x:=(Dd x).symm
@[simp] theorem c9Q (h:List PObj) (x:Expr):zN h (ye x)=some (ye x):=by
 rw[Dd]; simp[-c00]
@[simp] theorem d1v (l:List Expr):yU 6 (l.map ye)=true:=by cases l<;>simp
structure Eqn where
 left:List Str
 right:Expr
 deriving Inhabited
def yI (x:Eqn):PV := .agg [.list false (x.left.map PV.str),.int .i64 x.right.kind,.int .i64 x.right.op,.int .i64 x.right.t,.int .i64 x.right.v,.str x.right.name,.list false (x.right.args.map ye)]
theorem Ht (x:Eqn):yI x = .agg [.list false (x.left.map PV.str),.int .i64 x.right.kind,.int .i64 x.right.op,.int .i64 x.right.t,.int .i64 x.right.v,.str x.right.name,.list false (x.right.args.map ye)]:=rfl
@[simp] theorem c9R (x:Eqn):(yI x).cells=[.list false (x.left.map PV.str),.int .i64 x.right.kind,.int .i64 x.right.op,.int .i64 x.right.t,.int .i64 x.right.v,.str x.right.name,.list false (x.right.args.map ye)]:=rfl
@[simp] theorem d5e (x:Eqn):cp (yI x)=some (yI x):=rfl
@[simp] theorem d3I (x:Eqn):tkv (yI x)=some (yI x,false):=rfl
@[simp] theorem c4M (x:Eqn):CM (yI x)=some (yI x).cells:=rfl
@[simp] theorem d3J (x:Eqn):dem (yI x)=yI x:=rfl
@[simp] theorem d1w (x:Eqn):AK (yI x)=yI x:=rfl
@[simp] theorem d1x (x:Eqn):zp (yI x)=none:=rfl
@[simp] theorem MI (x:Eqn):PV.agg [.list false (x.left.map PV.str),.int .i64 x.right.kind,.int .i64 x.right.op,.int .i64 x.right.t,.int .i64 x.right.v,.str x.right.name,.list false (x.right.args.map ye)]=yI x:=(Ht x).symm
@[simp] theorem d1y (h:List PObj) (x:Eqn):zN h (yI x)=some (yI x):=by
 rw[Ht]; simp[-MI]
@[simp] theorem d3K (l:List Eqn):yU 7 (l.map yI)=true:=by cases l<;>simp
structure Trn where
 cond:Expr
 to:Int
 resume:Bool
 deriving Inhabited
def zt (x:Trn):PV := .agg [.int .i64 x.cond.kind,.int .i64 x.cond.op,.int .i64 x.cond.t,.int .i64 x.cond.v,.str x.cond.name,.list false (x.cond.args.map ye),.int .i64 x.to,.bool x.resume]
theorem Hu (x:Trn):zt x = .agg [.int .i64 x.cond.kind,.int .i64 x.cond.op,.int .i64 x.cond.t,.int .i64 x.cond.v,.str x.cond.name,.list false (x.cond.args.map ye),.int .i64 x.to,.bool x.resume]:=rfl
@[simp] theorem c9S (x:Trn):(zt x).cells=[.int .i64 x.cond.kind,.int .i64 x.cond.op,.int .i64 x.cond.t,.int .i64 x.cond.v,.str x.cond.name,.list false (x.cond.args.map ye),.int .i64 x.to,.bool x.resume]:=rfl
@[simp] theorem d5f (x:Trn):cp (zt x)=some (zt x):=rfl
@[simp] theorem d3L (x:Trn):tkv (zt x)=some (zt x,false):=rfl
@[simp] theorem c4N (x:Trn):CM (zt x)=some (zt x).cells:=rfl
@[simp] theorem d3M (x:Trn):dem (zt x)=zt x:=rfl
@[simp] theorem d1z (x:Trn):AK (zt x)=zt x:=rfl
@[simp] theorem d1A (x:Trn):zp (zt x)=none:=rfl
@[simp] theorem MJ (x:Trn):PV.agg [.int .i64 x.cond.kind,.int .i64 x.cond.op,.int .i64 x.cond.t,.int .i64 x.cond.v,.str x.cond.name,.list false (x.cond.args.map ye),.int .i64 x.to,.bool x.resume]=zt x:=(Hu x).symm
@[simp] theorem d1B (h:List PObj) (x:Trn):zN h (zt x)=some (zt x):=by
 rw[Hu]; simp[-MJ]
@[simp] theorem d3N (l:List Trn):yU 8 (l.map zt)=true:=by cases l<;>simp
inductive State where
 | mk (name:Str) (locals:List Decl) (eqs:List Eqn) (autos:List (List State)) (unl:List Trn) (til:List Trn)
instance:Inhabited State:=⟨.mk [] [] [] [] [] []⟩
def State.name:State→Str | .mk x _ _ _ _ _=>x
@[simp] theorem State.name_mk (name:Str) (locals:List Decl) (eqs:List Eqn) (autos:List (List State)) (unl:List Trn) (til:List Trn):(State.mk name locals eqs autos unl til).name=name:=rfl
def State.locals:State→List Decl | .mk _ x _ _ _ _=>x
@[simp] theorem State.locals_mk (name:Str) (locals:List Decl) (eqs:List Eqn) (autos:List (List State)) (unl:List Trn) (til:List Trn):(State.mk name locals eqs autos unl til).locals=locals:=rfl
def State.eqs:State→List Eqn | .mk _ _ x _ _ _=>x
@[simp] theorem State.eqs_mk (name:Str) (locals:List Decl) (eqs:List Eqn) (autos:List (List State)) (unl:List Trn) (til:List Trn):(State.mk name locals eqs autos unl til).eqs=eqs:=rfl
def State.autos:State→List (List State) | .mk _ _ _ x _ _=>x
@[simp] theorem State.autos_mk (name:Str) (locals:List Decl) (eqs:List Eqn) (autos:List (List State)) (unl:List Trn) (til:List Trn):(State.mk name locals eqs autos unl til).autos=autos:=rfl
def State.unl:State→List Trn | .mk _ _ _ _ x _=>x
@[simp] theorem State.unl_mk (name:Str) (locals:List Decl) (eqs:List Eqn) (autos:List (List State)) (unl:List Trn) (til:List Trn):(State.mk name locals eqs autos unl til).unl=unl:=rfl
def State.til:State→List Trn | .mk _ _ _ _ _ x=>x
@[simp] theorem State.til_mk (name:Str) (locals:List Decl) (eqs:List Eqn) (autos:List (List State)) (unl:List Trn) (til:List Trn):(State.mk name locals eqs autos unl til).til=til:=rfl
abbrev Bc:=List State
mutual
def yD:State→PV
 | .mk n l e a u w => .agg [.str n,.list false (l.map yi),.list false (e.map yI),.list false (F5 a),.list false (u.map zt),.list false (w.map zt)]
def F6:List State→List PV
 | []=>[]
 | x::xs=>yD x::F6 xs
def F5:List (List State)→List PV
 | []=>[]
 | x::xs => .agg [.list false (F6 x)]::F5 xs
end
def yS (a:Bc):PV := .agg [.list false (a.map yD)]
theorem Qe:∀l:List State,F6 l=l.map yD
 | []=>rfl
 | x::xs=>by simp[F6,Qe xs]
theorem Qf:∀l:List (List State),F5 l=l.map yS
 | []=>rfl
 | x::xs=>by simp[F5,Qf xs,Qe,yS]
theorem De (x:State):yD x = .agg [.str x.name,.list false (x.locals.map yi),.list false (x.eqs.map yI),.list false (x.autos.map yS),.list false (x.unl.map zt),.list false (x.til.map zt)]:=by cases x; simp[yD,Qf]
@[simp] theorem MK (x:State):(yD x).cells=[.str x.name,.list false (x.locals.map yi),.list false (x.eqs.map yI),.list false (x.autos.map yS),.list false (x.unl.map zt),.list false (x.til.map zt)]:=by rw[De]; rfl
@[simp] theorem d1C (x:State):cp (yD x)=some (yD x):=by rw[De]; rfl
@[simp] theorem c9T (x:State):tkv (yD x)=some (yD x,false):=by rw[De]; rfl
@[simp] theorem c2p (x:State):CM (yD x)=some (yD x).cells:=by rw[De]; rfl
@[simp] theorem c9U (x:State):dem (yD x)=yD x:=by rw[De]; rfl
@[simp] theorem c7F (x:State):AK (yD x)=yD x:=by rw[De]; rfl
@[simp] theorem c7G (x:State):zp (yD x)=none:=by rw[De]; rfl
@[simp] theorem b8O (x:State):PV.agg [.str x.name,.list false (x.locals.map yi),.list false (x.eqs.map yI),.list false (x.autos.map yS),.list false (x.unl.map zt),.list false (x.til.map zt)]=yD x:=(De x).symm
@[simp] theorem c7H (h:List PObj) (x:State):zN h (yD x)=some (yD x):=by
 rw[De]; simp[-b8O]
@[simp] theorem c9V (l:List State):yU 6 (l.map yD)=true:=by cases l<;>simp
theorem Qg (x:Bc):yS x = .agg [.list false (x.map yD)]:=rfl
@[simp] theorem c7I (x:Bc):(yS x).cells=[.list false (x.map yD)]:=rfl
@[simp] theorem d3O (x:Bc):cp (yS x)=some (yS x):=rfl
@[simp] theorem d1D (x:Bc):tkv (yS x)=some (yS x,false):=rfl
@[simp] theorem c4m (x:Bc):CM (yS x)=some (yS x).cells:=rfl
@[simp] theorem d1E (x:Bc):dem (yS x)=yS x:=rfl
@[simp] theorem c9W (x:Bc):AK (yS x)=yS x:=rfl
@[simp] theorem c9X (x:Bc):zp (yS x)=none:=rfl
@[simp] theorem Qh (x:Bc):PV.agg [.list false (x.map yD)]=yS x:=rfl
@[simp] theorem c9Y (h:List PObj) (x:Bc):zN h (yS x)=some (yS x):=by
 rw[Qg]; simp[-Qh]
@[simp] theorem d1F (l:List Bc):yU 1 (l.map yS)=true:=by cases l<;>simp
structure Node where
 name:Str
 ins:List Decl
 outs:List Decl
 locals:List Decl
 eqs:List Eqn
 autos:List (List State)
 assume:List Expr
 ensure:List Expr
 deriving Inhabited
def yx (x:Node):PV := .agg [.str x.name,.list false (x.ins.map yi),.list false (x.outs.map yi),.list false (x.locals.map yi),.list false (x.eqs.map yI),.list false (x.autos.map yS),.list false (x.assume.map ye),.list false (x.ensure.map ye)]
theorem Jy (x:Node):yx x = .agg [.str x.name,.list false (x.ins.map yi),.list false (x.outs.map yi),.list false (x.locals.map yi),.list false (x.eqs.map yI),.list false (x.autos.map yS),.list false (x.assume.map ye),.list false (x.ensure.map ye)]:=rfl
@[simp] theorem c7J (x:Node):(yx x).cells=[.str x.name,.list false (x.ins.map yi),.list false (x.outs.map yi),.list false (x.locals.map yi),.list false (x.eqs.map yI),.list false (x.autos.map yS),.list false (x.assume.map ye),.list false (x.ensure.map ye)]:=rfl
@[simp] theorem d3P (x:Node):cp (yx x)=some (yx x):=rfl
@[simp] theorem d1G (x:Node):tkv (yx x)=some (yx x,false):=rfl
@[simp] theorem c4o (x:Node):CM (yx x)=some (yx x).cells:=rfl
@[simp] theorem d1H (x:Node):dem (yx x)=yx x:=rfl
@[simp] theorem c9Z (x:Node):AK (yx x)=yx x:=rfl
@[simp] theorem c90 (x:Node):zp (yx x)=none:=rfl
@[simp] theorem Qi (x:Node):PV.agg [.str x.name,.list false (x.ins.map yi),.list false (x.outs.map yi),.list false (x.locals.map yi),.list false (x.eqs.map yI),.list false (x.autos.map yS),.list false (x.assume.map ye),.list false (x.ensure.map ye)]=yx x:=rfl
@[simp] theorem c91 (h:List PObj) (x:Node):zN h (yx x)=some (yx x):=by
 rw[Jy]; simp[-Qi]
@[simp] theorem d1I (l:List Node):yU 8 (l.map yx)=true:=by cases l<;>simp
structure Prog where
 enums:List Enum
 nodes:List Node
 deriving Inhabited
def zh (x:Prog):PV := .agg [.list false (x.enums.map yu),.list false (x.nodes.map yx)]
theorem ML (x:Prog):zh x = .agg [.list false (x.enums.map yu),.list false (x.nodes.map yx)]:=rfl
@[simp] theorem c7K (x:Prog):(zh x).cells=[.list false (x.enums.map yu),.list false (x.nodes.map yx)]:=rfl
@[simp] theorem d3Q (x:Prog):cp (zh x)=some (zh x):=rfl
@[simp] theorem d1J (x:Prog):tkv (zh x)=some (zh x,false):=rfl
@[simp] theorem c4p (x:Prog):CM (zh x)=some (zh x).cells:=rfl
@[simp] theorem d1K (x:Prog):dem (zh x)=zh x:=rfl
@[simp] theorem c92 (x:Prog):AK (zh x)=zh x:=rfl
@[simp] theorem c93 (x:Prog):zp (zh x)=none:=rfl
@[simp] theorem Qj (x:Prog):PV.agg [.list false (x.enums.map yu),.list false (x.nodes.map yx)]=zh x:=rfl
@[simp] theorem c94 (h:List PObj) (x:Prog):zN h (zh x)=some (zh x):=by
 rw[ML]; simp[-Qj]
@[simp] theorem d1L (l:List Prog):yU 2 (l.map zh)=true:=by cases l<;>simp
mutual
theorem Qk:∀x:Expr,yt (ye x)=true
 | .mk k o t v n as=>by simp only[ye,yt,yq,Ql as,bu]
theorem Ql:∀l:List Expr,yq (F4 l)=true
 | []=>rfl
 | x::xs=>by simp only[F4,yq,Qk x,Ql xs,bu]
end
@[simp] theorem c01 (x:Expr):yt (ye x)=true:=Qk x
@[simp] theorem d1M (l:List Expr):yq (l.map ye)=true:=CZ c01 l
@[simp] theorem c4O (x:On):yt (eOn x)=true:=rfl
@[simp] theorem d5g (l:List On):yq (l.map eOn)=true:=CZ c4O l
@[simp] theorem c02 (x:Decl):yt (yi x)=true:=by rw[Jx]; simp[-Qb]
@[simp] theorem c2q (l:List Decl):yq (l.map yi)=true:=CZ c02 l
@[simp] theorem c03 (x:Enum):yt (yu x)=true:=by rw[MH]; simp[-Qc]
@[simp] theorem d1N (l:List Enum):yq (l.map yu)=true:=CZ c03 l
@[simp] theorem c2r (x:Eqn):yt (yI x)=true:=by rw[Ht]; simp[-MI]
@[simp] theorem c4P (l:List Eqn):yq (l.map yI)=true:=CZ c2r l
@[simp] theorem c2s (x:Trn):yt (zt x)=true:=by rw[Hu]; simp[-MJ]
@[simp] theorem c4Q (l:List Trn):yq (l.map zt)=true:=CZ c2s l
mutual
theorem Qm:∀x:State,yt (yD x)=true
 | .mk n l e a u w=>by simp only[yD,yt,yq,c2q,c4P,c4Q,Qn a,bu]
theorem Qo:∀l:List State,yq (F6 l)=true
 | []=>rfl
 | x::xs=>by simp only[F6,yq,Qm x,Qo xs,bu]
theorem Qn:∀l:List (List State),yq (F5 l)=true
 | []=>rfl
 | x::xs=>by simp only[F5,yq,yt,Qo x,Qn xs,bu]
end
@[simp] theorem b8P (x:State):yt (yD x)=true:=Qm x
@[simp] theorem c04 (l:List State):yq (l.map yD)=true:=CZ b8P l
@[simp] theorem c05 (x:Bc):yt (yS x)=true:=by simp[Qg,-Qh]
@[simp] theorem d1O (l:List Bc):yq (l.map yS)=true:=CZ c05 l
@[simp] theorem c06 (x:Node):yt (yx x)=true:=by rw[Jy]; simp[-Qi]
@[simp] theorem d1P (l:List Node):yq (l.map yx)=true:=CZ c06 l
@[simp] theorem c95 (x:Prog):yt (zh x)=true:=by rw[ML]; simp[-Qj]
end Sc
end PI
