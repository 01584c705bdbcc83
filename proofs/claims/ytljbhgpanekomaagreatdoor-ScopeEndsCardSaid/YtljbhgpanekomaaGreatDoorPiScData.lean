import Derived.Test.YtljbhgpanekomaaGreatDoorPiWp
set_option linter.unusedSimpArgs false
namespace PI
open Go (IntKind BinOp UnOp)
attribute [simp] a0a a5G a3M
@[simp] theorem c4V (s:Nat):a0W s []=true:=rfl
@[simp] theorem c3h (s:Nat) (e:PV) (r:List PV):a0W s (e::r)=(e.cells.length==s):=rfl
@[simp] theorem c4W (b:Bool):(PV.bool b).cells=[.bool b]:=rfl
@[simp] theorem c6E (k:IntKind) (n:Int):(PV.int k n).cells=[.int k n]:=rfl
@[simp] theorem cells_str (s:List UInt8):(PV.str s).cells=[.str s]:=rfl
@[simp] theorem c4X (o:Bool) (s:List PV):(PV.list o s).cells=[.list o s]:=rfl
@[simp] theorem c6F (b:Bool):(PV.bool b).flat=true:=rfl
@[simp] theorem c8P (k:IntKind) (n:Int):(PV.int k n).flat=true:=rfl
@[simp] theorem c8Q (s:List UInt8):(PV.str s).flat=true:=rfl
@[simp] theorem c6G (o:Bool) (s:List PV):(PV.list o s).flat=true:=rfl
@[simp] theorem c8R (n o:Nat):(PV.ptr n o).flat=true:=rfl
@[simp] theorem c3j:PV.nilptr.flat=true:=rfl
@[simp] theorem c8S (n:Option Nat):(PV.map n).flat=true:=rfl
@[simp] theorem c6H (n s:Nat) (a:Bool) (l:Nat):(PV.rowp n s a l).flat=true:=rfl
@[simp] theorem c8T (op:BinOp) (h1:op≠.shl) (h2:op≠.shr) (k:IntKind) (a b:Int):b8v op (.int k a) (.int k b)=b31 op k a b:=by cases op<;>simp_all [b8v]
@[simp] theorem c8U (op:BinOp) (a b:List UInt8):b8v op (.str a) (.str b)=b32 op a b:=by cases op<;>rfl
@[simp] theorem a0c (i:Nat) (h:i<9223372036854775807):IntKind.i64.wrap ((i:Int)+1)=((i+1:Nat):Int):=by
 show (if (true&&decide (((i:Int)+1) % 18446744073709551616≥9223372036854775808))=true then((i:Int)+1) % 18446744073709551616 - 18446744073709551616 else((i:Int)+1) % 18446744073709551616)=_
 simp only[Bool.true_and,decide_eq_true_eq]
 split<;>omega
theorem a0E (n:Int) (h1 : -9223372036854775808≤n) (h2:n≤9223372036854775807):IntKind.i64.wrap n=n:=by
 show (if (true&&decide (n % 18446744073709551616≥9223372036854775808))=true then n % 18446744073709551616 - 18446744073709551616 else n % 18446744073709551616)=_
 simp only[Bool.true_and,decide_eq_true_eq]
 split<;>omega
theorem a80 (l:List PV):a0j l=l.all a0p:=by induction l<;>simp_all
@[simp] theorem c10 (a b:List PV):a0j (a++b)=(a0j a&&a0j b):=by simp[a80,List.all_append]
@[simp] theorem c4Y (l:List PV) (n:Nat) (h:a0j l=true):a0j (l.take n)=true:=by
 rw[a80,List.all_eq_true] at *
 exact λx hx=>h x (List.mem_of_mem_take hx)
@[simp] theorem c4Z (l:List PV) (n:Nat) (h:a0j l=true):a0j (l.drop n)=true:=by
 rw[a80,List.all_eq_true] at *
 exact λx hx=>h x (List.mem_of_mem_drop hx)
theorem a2D {α:Type} {f:α→PV} (h:∀x,a0p (f x)=true) (l:List α):a0j (l.map f)=true:=by
 rw[a80,List.all_eq_true]; intro x hx; obtain⟨y,_,rfl⟩:=List.mem_map.1 hx; exact h y
@[simp] theorem c6I (l:List (List UInt8)):a0j (l.map PV.str)=true:=a2D (λ_=>rfl) l
@[simp] theorem c6J (l:List (List UInt8)):a0W 1 (l.map PV.str)=true:=by cases l<;>simp
@[simp] theorem c6K (l:List Int):a0j (l.map (PV.int .i64))=true:=a2D (λ_=>rfl) l
@[simp] theorem c6L (l:List Int):a0W 1 (l.map (PV.int .i64))=true:=by cases l<;>simp
namespace Sc
abbrev Str:=List UInt8
structure On where
 name:Str
 t:Int
 tag:Int
 deriving Inhabited,DecidableEq
def eOn (x:On):PV := .agg [.str x.name,.int .i64 x.t,.int .i64 x.tag]
theorem b87 (x:On):eOn x = .agg [.str x.name,.int .i64 x.t,.int .i64 x.tag]:=rfl
@[simp] theorem c6M (x:On):(eOn x).cells=[.str x.name,.int .i64 x.t,.int .i64 x.tag]:=rfl
@[simp] theorem d1r (x:On):cp (eOn x)=some (eOn x):=rfl
@[simp] theorem d0t (x:On):tkv (eOn x)=some (eOn x,false):=rfl
@[simp] theorem c13 (x:On):a2z (eOn x)=some (eOn x).cells:=rfl
@[simp] theorem d0u (x:On):dem (eOn x)=eOn x:=rfl
@[simp] theorem c8V (x:On):b3f (eOn x)=eOn x:=rfl
@[simp] theorem c8W (x:On):a1g (eOn x)=none:=rfl
@[simp] theorem c0L (x:On):PV.agg [.str x.name,.int .i64 x.t,.int .i64 x.tag]=eOn x:=(b87 x).symm
@[simp] theorem c8X (h:List PObj) (x:On):a8n h (eOn x)=some (eOn x):=by
 rw[b87]; simp[-c0L]
@[simp] theorem d0v (l:List On):a0W 3 (l.map eOn)=true:=by cases l<;>simp
@[simp] theorem d1s (x y:On):peq true [.s,.i,.i] (eOn x) (eOn y)=some (decide (x=y)):=by
 cases x; cases y
 simp only[eOn,peq,if_true,b33,b6L,Option.bind_some,Option.map_some,Option.some.injEq,On.mk.injEq,Bool.and_true]
 rw[Bool.eq_iff_iff]; simp
structure Decl where
 name:Str
 type:Int
 clock:List On
 deriving Inhabited,DecidableEq
def a0B (x:Decl):PV := .agg [.str x.name,.int .i64 x.type,.list false (x.clock.map eOn)]
theorem a81 (x:Decl):a0B x = .agg [.str x.name,.int .i64 x.type,.list false (x.clock.map eOn)]:=rfl
@[simp] theorem c3k (x:Decl):(a0B x).cells=[.str x.name,.int .i64 x.type,.list false (x.clock.map eOn)]:=rfl
@[simp] theorem c8Y (x:Decl):cp (a0B x)=some (a0B x):=rfl
@[simp] theorem c6N (x:Decl):tkv (a0B x)=some (a0B x,false):=rfl
@[simp] theorem b97 (x:Decl):a2z (a0B x)=some (a0B x).cells:=rfl
@[simp] theorem c6O (x:Decl):dem (a0B x)=a0B x:=rfl
@[simp] theorem c40 (x:Decl):b3f (a0B x)=a0B x:=rfl
@[simp] theorem c41 (x:Decl):a1g (a0B x)=none:=rfl
@[simp] theorem b2H (x:Decl):PV.agg [.str x.name,.int .i64 x.type,.list false (x.clock.map eOn)]=a0B x:=(a81 x).symm
@[simp] theorem c42 (h:List PObj) (x:Decl):a8n h (a0B x)=some (a0B x):=by
 rw[a81]; simp[-b2H]
@[simp] theorem c6P (l:List Decl):a0W 3 (l.map a0B)=true:=by cases l<;>simp
structure Enum where
 name:Str
 tags:List Str
 deriving Inhabited,DecidableEq
def a0U (x:Enum):PV := .agg [.str x.name,.list false (x.tags.map PV.str)]
theorem b1A (x:Enum):a0U x = .agg [.str x.name,.list false (x.tags.map PV.str)]:=rfl
@[simp] theorem c3l (x:Enum):(a0U x).cells=[.str x.name,.list false (x.tags.map PV.str)]:=rfl
@[simp] theorem c8Z (x:Enum):cp (a0U x)=some (a0U x):=rfl
@[simp] theorem c6Q (x:Enum):tkv (a0U x)=some (a0U x,false):=rfl
@[simp] theorem b98 (x:Enum):a2z (a0U x)=some (a0U x).cells:=rfl
@[simp] theorem c6R (x:Enum):dem (a0U x)=a0U x:=rfl
@[simp] theorem c43 (x:Enum):b3f (a0U x)=a0U x:=rfl
@[simp] theorem c44 (x:Enum):a1g (a0U x)=none:=rfl
@[simp] theorem b2I (x:Enum):PV.agg [.str x.name,.list false (x.tags.map PV.str)]=a0U x:=(b1A x).symm
@[simp] theorem c46 (h:List PObj) (x:Enum):a8n h (a0U x)=some (a0U x):=by
 rw[b1A]; simp[-b2I]
@[simp] theorem c6S (l:List Enum):a0W 2 (l.map a0U)=true:=by cases l<;>simp
inductive Expr where
 | mk (kind:Int) (op:Int) (t:Int) (v:Int) (name:Str) (args:List Expr)
instance:Inhabited Expr:=⟨.mk 0 0 0 0 [] []⟩
def Expr.kind:Expr→Int | .mk x _ _ _ _ _=>x
@[simp] theorem Expr.kind_mk (kind:Int) (op:Int) (t:Int) (v:Int) (name:Str) (args:List Expr):(Expr.mk kind op t v name args).kind=kind:=rfl
def Expr.op:Expr→Int | .mk _ x _ _ _ _=>x
@[simp] theorem Expr.op_mk (kind:Int) (op:Int) (t:Int) (v:Int) (name:Str) (args:List Expr):(Expr.mk kind op t v name args).op=op:=rfl
def Expr.t:Expr→Int | .mk _ _ x _ _ _=>x
@[simp] theorem Expr.t_mk (kind:Int) (op:Int) (t:Int) (v:Int) (name:Str) (args:List Expr):(Expr.mk kind op t v name args).t=t:=rfl
def Expr.v:Expr→Int | .mk _ _ _ x _ _=>x
@[simp] theorem Expr.v_mk (kind:Int) (op:Int) (t:Int) (v:Int) (name:Str) (args:List Expr):(Expr.mk kind op t v name args).v=v:=rfl
def Expr.name:Expr→Str | .mk _ _ _ _ x _=>x
@[simp] theorem Expr.name_mk (kind:Int) (op:Int) (t:Int) (v:Int) (name:Str) (args:List Expr):(Expr.mk kind op t v name args).name=name:=rfl
def Expr.args:Expr→List Expr | .mk _ _ _ _ _ x=>x
@[simp] theorem Expr.args_mk (kind:Int) (op:Int) (t:Int) (v:Int) (name:Str) (args:List Expr):(Expr.mk kind op t v name args).args=args:=rfl
mutual
def a0u:Expr→PV
 | .mk k o t v n as => .agg [.int .i64 k,.int .i64 o,.int .i64 t,.int .i64 v,.str n,.list false (b2J as)]
def b2J:List Expr→List PV
 | []=>[]
 | x::xs=>a0u x::b2J xs
end
theorem b4N:∀l:List Expr,b2J l=l.map a0u
 | []=>rfl
 | x::xs=>by simp[b2J,b4N xs]
theorem a3o (x:Expr):a0u x = .agg [.int .i64 x.kind,.int .i64 x.op,.int .i64 x.t,.int .i64 x.v,.str x.name,.list false (x.args.map a0u)]:=by cases x; simp[a0u,b4N,Expr.kind,Expr.op,Expr.t,Expr.v,Expr.name,Expr.args]
@[simp] theorem c3m (x:Expr):(a0u x).cells=[.int .i64 x.kind,.int .i64 x.op,.int .i64 x.t,.int .i64 x.v,.str x.name,.list false (x.args.map a0u)]:=by rw[a3o]; rfl
@[simp] theorem c80 (x:Expr):cp (a0u x)=some (a0u x):=by rw[a3o]; rfl
@[simp] theorem c6T (x:Expr):tkv (a0u x)=some (a0u x,false):=by rw[a3o]; rfl
@[simp] theorem b99 (x:Expr):a2z (a0u x)=some (a0u x).cells:=by rw[a3o]; rfl
@[simp] theorem b88 (x:Expr):dem (a0u x)=a0u x:=by rw[a3o]; rfl
@[simp] theorem c47 (x:Expr):b3f (a0u x)=a0u x:=by rw[a3o]; rfl
@[simp] theorem c48 (x:Expr):a1g (a0u x)=none:=by rw[a3o]; rfl
@[simp] theorem b7M (x:Expr):PV.agg [.int .i64 x.kind,.int .i64 x.op,.int .i64 x.t,.int .i64 x.v,.str x.name,.list false (x.args.map a0u)]=a0u x:=(a3o x).symm
@[simp] theorem c49 (h:List PObj) (x:Expr):a8n h (a0u x)=some (a0u x):=by
 rw[a3o]; simp[-b7M]
@[simp] theorem c6U (l:List Expr):a0W 6 (l.map a0u)=true:=by cases l<;>simp
structure Eqn where
 left:List Str
 right:Expr
 deriving Inhabited
def a5E (x:Eqn):PV := .agg [.list false (x.left.map PV.str),.int .i64 x.right.kind,.int .i64 x.right.op,.int .i64 x.right.t,.int .i64 x.right.v,.str x.right.name,.list false (x.right.args.map a0u)]
theorem b0U (x:Eqn):a5E x = .agg [.list false (x.left.map PV.str),.int .i64 x.right.kind,.int .i64 x.right.op,.int .i64 x.right.t,.int .i64 x.right.v,.str x.right.name,.list false (x.right.args.map a0u)]:=rfl
@[simp] theorem c5a (x:Eqn):(a5E x).cells=[.list false (x.left.map PV.str),.int .i64 x.right.kind,.int .i64 x.right.op,.int .i64 x.right.t,.int .i64 x.right.v,.str x.right.name,.list false (x.right.args.map a0u)]:=rfl
@[simp] theorem d0w (x:Eqn):cp (a5E x)=some (a5E x):=rfl
@[simp] theorem c81 (x:Eqn):tkv (a5E x)=some (a5E x,false):=rfl
@[simp] theorem c0M (x:Eqn):a2z (a5E x)=some (a5E x).cells:=rfl
@[simp] theorem c82 (x:Eqn):dem (a5E x)=a5E x:=rfl
@[simp] theorem c6V (x:Eqn):b3f (a5E x)=a5E x:=rfl
@[simp] theorem c6W (x:Eqn):a1g (a5E x)=none:=rfl
@[simp] theorem b1B (x:Eqn):PV.agg [.list false (x.left.map PV.str),.int .i64 x.right.kind,.int .i64 x.right.op,.int .i64 x.right.t,.int .i64 x.right.v,.str x.right.name,.list false (x.right.args.map a0u)]=a5E x:=(b0U x).symm
@[simp] theorem c6X (h:List PObj) (x:Eqn):a8n h (a5E x)=some (a5E x):=by
 rw[b0U]; simp[-b1B]
@[simp] theorem c83 (l:List Eqn):a0W 7 (l.map a5E)=true:=by cases l<;>simp
structure Trn where
 cond:Expr
 to:Int
 resume:Bool
 deriving Inhabited
def a6W (x:Trn):PV := .agg [.int .i64 x.cond.kind,.int .i64 x.cond.op,.int .i64 x.cond.t,.int .i64 x.cond.v,.str x.cond.name,.list false (x.cond.args.map a0u),.int .i64 x.to,.bool x.resume]
theorem b0V (x:Trn):a6W x = .agg [.int .i64 x.cond.kind,.int .i64 x.cond.op,.int .i64 x.cond.t,.int .i64 x.cond.v,.str x.cond.name,.list false (x.cond.args.map a0u),.int .i64 x.to,.bool x.resume]:=rfl
@[simp] theorem c5b (x:Trn):(a6W x).cells=[.int .i64 x.cond.kind,.int .i64 x.cond.op,.int .i64 x.cond.t,.int .i64 x.cond.v,.str x.cond.name,.list false (x.cond.args.map a0u),.int .i64 x.to,.bool x.resume]:=rfl
@[simp] theorem d0x (x:Trn):cp (a6W x)=some (a6W x):=rfl
@[simp] theorem c84 (x:Trn):tkv (a6W x)=some (a6W x,false):=rfl
@[simp] theorem c0N (x:Trn):a2z (a6W x)=some (a6W x).cells:=rfl
@[simp] theorem c85 (x:Trn):dem (a6W x)=a6W x:=rfl
@[simp] theorem c6Y (x:Trn):b3f (a6W x)=a6W x:=rfl
@[simp] theorem c6Z (x:Trn):a1g (a6W x)=none:=rfl
@[simp] theorem b1C (x:Trn):PV.agg [.int .i64 x.cond.kind,.int .i64 x.cond.op,.int .i64 x.cond.t,.int .i64 x.cond.v,.str x.cond.name,.list false (x.cond.args.map a0u),.int .i64 x.to,.bool x.resume]=a6W x:=(b0V x).symm
@[simp] theorem c60 (h:List PObj) (x:Trn):a8n h (a6W x)=some (a6W x):=by
 rw[b0V]; simp[-b1C]
@[simp] theorem c86 (l:List Trn):a0W 8 (l.map a6W)=true:=by cases l<;>simp
inductive State where
 | mk (name:Str) (locals:List Decl) (eqs:List Eqn) (autos:List (List State)) (unl:List Trn) (til:List Trn)
instance:Inhabited State:=⟨.mk [] [] [] [] [] []⟩
def State.name:State→Str | .mk x _ _ _ _ _=>x
@[simp] theorem State.name_mk (name:Str) (locals:List Decl) (eqs:List Eqn) (autos:List (List State)) (unl:List Trn) (til:List Trn):(State.mk name locals eqs autos unl til).name=name:=rfl
def State.locals:State→List Decl | .mk _ x _ _ _ _=>x
@[simp] theorem State.locals_mk (name:Str) (locals:List Decl) (eqs:List Eqn) (autos:List (List State)) (unl:List Trn) (til:List Trn):(State.mk name locals eqs autos unl til).locals=locals:=rfl
def State.eqs:State→List Eqn | .mk _ _ x _ _ _=>x
@[simp] theorem State.eqs_mk (name:Str) (locals:List Decl) (eqs:List Eqn) (autos:List (List State)) (unl:List Trn) (til:List Trn):(State.mk name locals eqs autos unl til).eqs=eqs:=rfl
def State.autos:State→List (List State) | .mk _ _ _ x _ _=>x
@[simp] theorem State.autos_mk (name:Str) (locals:List Decl) (eqs:List Eqn) (autos:List (List State)) (unl:List Trn) (til:List Trn):(State.mk name locals eqs autos unl til).autos=autos:=rfl
def State.unl:State→List Trn | .mk _ _ _ _ x _=>x
@[simp] theorem State.unl_mk (name:Str) (locals:List Decl) (eqs:List Eqn) (autos:List (List State)) (unl:List Trn) (til:List Trn):(State.mk name locals eqs autos unl til).unl=unl:=rfl
def State.til:State→List Trn | .mk _ _ _ _ _ x=>x
@[simp] theorem State.til_mk (name:Str) (locals:List Decl) (eqs:List Eqn) (autos:List (List State)) (unl:List Trn) (til:List Trn):(State.mk name locals eqs autos unl til).til=til:=rfl
abbrev b2K:=List State
mutual
def a0G:State→PV
 | .mk n l e a u w => .agg [.str n,.list false (l.map a0B),.list false (e.map a5E),.list false (b2L a),.list false (u.map a6W),.list false (w.map a6W)]
def a9O:List State→List PV
 | []=>[]
 | x::xs=>a0G x::a9O xs
def b2L:List (List State)→List PV
 | []=>[]
 | x::xs => .agg [.list false (a9O x)]::b2L xs
end
def a1H (a:b2K):PV := .agg [.list false (a.map a0G)]
theorem b2M:∀l:List State,a9O l=l.map a0G
 | []=>rfl
 | x::xs=>by simp[a9O,b2M xs]
theorem b4O:∀l:List (List State),b2L l=l.map a1H
 | []=>rfl
 | x::xs=>by simp[b2L,b4O xs,b2M,a1H]
theorem a2G (x:State):a0G x = .agg [.str x.name,.list false (x.locals.map a0B),.list false (x.eqs.map a5E),.list false (x.autos.map a1H),.list false (x.unl.map a6W),.list false (x.til.map a6W)]:=by cases x; simp[a0G,b4O]
@[simp] theorem a7z (x:State):(a0G x).cells=[.str x.name,.list false (x.locals.map a0B),.list false (x.eqs.map a5E),.list false (x.autos.map a1H),.list false (x.unl.map a6W),.list false (x.til.map a6W)]:=by rw[a2G]; rfl
@[simp] theorem c61 (x:State):cp (a0G x)=some (a0G x):=by rw[a2G]; rfl
@[simp] theorem c5c (x:State):tkv (a0G x)=some (a0G x,false):=by rw[a2G]; rfl
@[simp] theorem b89 (x:State):a2z (a0G x)=some (a0G x).cells:=by rw[a2G]; rfl
@[simp] theorem c5d (x:State):dem (a0G x)=a0G x:=by rw[a2G]; rfl
@[simp] theorem c3n (x:State):b3f (a0G x)=a0G x:=by rw[a2G]; rfl
@[simp] theorem c3o (x:State):a1g (a0G x)=none:=by rw[a2G]; rfl
@[simp] theorem b59 (x:State):PV.agg [.str x.name,.list false (x.locals.map a0B),.list false (x.eqs.map a5E),.list false (x.autos.map a1H),.list false (x.unl.map a6W),.list false (x.til.map a6W)]=a0G x:=(a2G x).symm
@[simp] theorem c3p (h:List PObj) (x:State):a8n h (a0G x)=some (a0G x):=by
 rw[a2G]; simp[-b59]
@[simp] theorem c5e (l:List State):a0W 6 (l.map a0G)=true:=by cases l<;>simp
theorem b4P (x:b2K):a1H x = .agg [.list false (x.map a0G)]:=rfl
@[simp] theorem c3q (x:b2K):(a1H x).cells=[.list false (x.map a0G)]:=rfl
@[simp] theorem c87 (x:b2K):cp (a1H x)=some (a1H x):=rfl
@[simp] theorem c62 (x:b2K):tkv (a1H x)=some (a1H x,false):=rfl
@[simp] theorem c0a (x:b2K):a2z (a1H x)=some (a1H x).cells:=rfl
@[simp] theorem c63 (x:b2K):dem (a1H x)=a1H x:=rfl
@[simp] theorem c5f (x:b2K):b3f (a1H x)=a1H x:=rfl
@[simp] theorem c5g (x:b2K):a1g (a1H x)=none:=rfl
@[simp] theorem b2N (x:b2K):PV.agg [.list false (x.map a0G)]=a1H x:=rfl
@[simp] theorem c5h (h:List PObj) (x:b2K):a8n h (a1H x)=some (a1H x):=by
 rw[b4P]; simp[-b2N]
@[simp] theorem c64 (l:List b2K):a0W 1 (l.map a1H)=true:=by cases l<;>simp
structure Node where
 name:Str
 ins:List Decl
 outs:List Decl
 locals:List Decl
 eqs:List Eqn
 autos:List (List State)
 assume:List Expr
 ensure:List Expr
 deriving Inhabited
def a1B (x:Node):PV := .agg [.str x.name,.list false (x.ins.map a0B),.list false (x.outs.map a0B),.list false (x.locals.map a0B),.list false (x.eqs.map a5E),.list false (x.autos.map a1H),.list false (x.assume.map a0u),.list false (x.ensure.map a0u)]
theorem b4Q (x:Node):a1B x = .agg [.str x.name,.list false (x.ins.map a0B),.list false (x.outs.map a0B),.list false (x.locals.map a0B),.list false (x.eqs.map a5E),.list false (x.autos.map a1H),.list false (x.assume.map a0u),.list false (x.ensure.map a0u)]:=rfl
@[simp] theorem c3r (x:Node):(a1B x).cells=[.str x.name,.list false (x.ins.map a0B),.list false (x.outs.map a0B),.list false (x.locals.map a0B),.list false (x.eqs.map a5E),.list false (x.autos.map a1H),.list false (x.assume.map a0u),.list false (x.ensure.map a0u)]:=rfl
@[simp] theorem c88 (x:Node):cp (a1B x)=some (a1B x):=rfl
@[simp] theorem c65 (x:Node):tkv (a1B x)=some (a1B x,false):=rfl
@[simp] theorem c0b (x:Node):a2z (a1B x)=some (a1B x).cells:=rfl
@[simp] theorem c66 (x:Node):dem (a1B x)=a1B x:=rfl
@[simp] theorem c5j (x:Node):b3f (a1B x)=a1B x:=rfl
@[simp] theorem c5k (x:Node):a1g (a1B x)=none:=rfl
@[simp] theorem b2O (x:Node):PV.agg [.str x.name,.list false (x.ins.map a0B),.list false (x.outs.map a0B),.list false (x.locals.map a0B),.list false (x.eqs.map a5E),.list false (x.autos.map a1H),.list false (x.assume.map a0u),.list false (x.ensure.map a0u)]=a1B x:=rfl
@[simp] theorem c5l (h:List PObj) (x:Node):a8n h (a1B x)=some (a1B x):=by
 rw[b4Q]; simp[-b2O]
@[simp] theorem c68 (l:List Node):a0W 8 (l.map a1B)=true:=by cases l<;>simp
structure Prog where
 enums:List Enum
 nodes:List Node
 deriving Inhabited
def a3y (x:Prog):PV := .agg [.list false (x.enums.map a0U),.list false (x.nodes.map a1B)]
theorem b4R (x:Prog):a3y x = .agg [.list false (x.enums.map a0U),.list false (x.nodes.map a1B)]:=rfl
@[simp] theorem c3s (x:Prog):(a3y x).cells=[.list false (x.enums.map a0U),.list false (x.nodes.map a1B)]:=rfl
@[simp] theorem c89 (x:Prog):cp (a3y x)=some (a3y x):=rfl
@[simp] theorem c69 (x:Prog):tkv (a3y x)=some (a3y x,false):=rfl
@[simp] theorem c0c (x:Prog):a2z (a3y x)=some (a3y x).cells:=rfl
@[simp] theorem c7a (x:Prog):dem (a3y x)=a3y x:=rfl
@[simp] theorem c5m (x:Prog):b3f (a3y x)=a3y x:=rfl
@[simp] theorem c5n (x:Prog):a1g (a3y x)=none:=rfl
@[simp] theorem b2P (x:Prog):PV.agg [.list false (x.enums.map a0U),.list false (x.nodes.map a1B)]=a3y x:=rfl
@[simp] theorem c5o (h:List PObj) (x:Prog):a8n h (a3y x)=some (a3y x):=by
 rw[b4R]; simp[-b2P]
@[simp] theorem c7b (l:List Prog):a0W 2 (l.map a3y)=true:=by cases l<;>simp
mutual
theorem b1D:∀x:Expr,a0p (a0u x)=true
 | .mk k o t v n as=>by simp only[a0u,a0p,a0j,b1E as,Bool.and_true]
theorem b1E:∀l:List Expr,a0j (b2J l)=true
 | []=>rfl
 | x::xs=>by simp only[b2J,a0j,b1D x,b1E xs,Bool.and_true]
end
@[simp] theorem b7N (x:Expr):a0p (a0u x)=true:=b1D x
@[simp] theorem c7c (l:List Expr):a0j (l.map a0u)=true:=a2D b7N l
@[simp] theorem c0O (x:On):a0p (eOn x)=true:=rfl
@[simp] theorem d0y (l:List On):a0j (l.map eOn)=true:=a2D c0O l
@[simp] theorem b7O (x:Decl):a0p (a0B x)=true:=by rw[a81]; simp[-b2H]
@[simp] theorem b9a (l:List Decl):a0j (l.map a0B)=true:=a2D b7O l
@[simp] theorem b7P (x:Enum):a0p (a0U x)=true:=by rw[b1A]; simp[-b2I]
@[simp] theorem c7d (l:List Enum):a0j (l.map a0U)=true:=a2D b7P l
@[simp] theorem b9b (x:Eqn):a0p (a5E x)=true:=by rw[b0U]; simp[-b1B]
@[simp] theorem c0P (l:List Eqn):a0j (l.map a5E)=true:=a2D b9b l
@[simp] theorem b9c (x:Trn):a0p (a6W x)=true:=by rw[b0V]; simp[-b1C]
@[simp] theorem c0Q (l:List Trn):a0j (l.map a6W)=true:=a2D b9c l
mutual
theorem b0l:∀x:State,a0p (a0G x)=true
 | .mk n l e a u w=>by simp only[a0G,a0p,a0j,b9a,c0P,c0Q,b1F a,Bool.and_true]
theorem b0m:∀l:List State,a0j (a9O l)=true
 | []=>rfl
 | x::xs=>by simp only[a9O,a0j,b0l x,b0m xs,Bool.and_true]
theorem b1F:∀l:List (List State),a0j (b2L l)=true
 | []=>rfl
 | x::xs=>by simp only[b2L,a0j,a0p,b0m x,b1F xs,Bool.and_true]
end
@[simp] theorem b6a (x:State):a0p (a0G x)=true:=b0l x
@[simp] theorem b7Q (l:List State):a0j (l.map a0G)=true:=a2D b6a l
@[simp] theorem b7R (x:b2K):a0p (a1H x)=true:=by simp[b4P,-b2N]
@[simp] theorem c7e (l:List b2K):a0j (l.map a1H)=true:=a2D b7R l
@[simp] theorem b7S (x:Node):a0p (a1B x)=true:=by rw[b4Q]; simp[-b2O]
@[simp] theorem c7f (l:List Node):a0j (l.map a1B)=true:=a2D b7S l
@[simp] theorem c5p (x:Prog):a0p (a3y x)=true:=by rw[b4R]; simp[-b2P]
end Sc
end PI
