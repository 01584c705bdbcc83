import Derived.Test.YtljbhgpanekomaaGreatDoorPiWp
set_option linter.unusedSimpArgs false
namespace PI
open Go (IntKind BinOp UnOp)
attribute [simp] wh BZ AU
@[simp] theorem c56 (s:Nat):wL s []=true:=rfl
@[simp] theorem c4t (s:Nat) (e:PV) (r:List PV):wL s (e::r)=(e.cells.length==s):=rfl
@[simp] theorem c57 (b:Bool):(PV.bool b).cells=[.bool b]:=rfl
@[simp] theorem c7P (k:IntKind) (n:Int):(PV.int k n).cells=[.int k n]:=rfl
@[simp] theorem cells_str (s:List UInt8):(PV.str s).cells=[.str s]:=rfl
@[simp] theorem c58 (o:Bool) (s:List PV):(PV.list o s).cells=[.list o s]:=rfl
@[simp] theorem c7Q (b:Bool):(PV.bool b).flat=true:=rfl
@[simp] theorem c93 (k:IntKind) (n:Int):(PV.int k n).flat=true:=rfl
@[simp] theorem c94 (s:List UInt8):(PV.str s).flat=true:=rfl
@[simp] theorem c7R (o:Bool) (s:List PV):(PV.list o s).flat=true:=rfl
@[simp] theorem c95 (n o:Nat):(PV.ptr n o).flat=true:=rfl
@[simp] theorem c4u:PV.nilptr.flat=true:=rfl
@[simp] theorem c96 (n:Option Nat):(PV.map n).flat=true:=rfl
@[simp] theorem c7S (n s:Nat) (a:Bool) (l:Nat):(PV.rowp n s a l).flat=true:=rfl
@[simp] theorem c97 (op:BinOp) (h1:op≠.shl) (h2:op≠.shr) (k:IntKind) (a b:Int):AT op (.int k a) (.int k b)=DY op k a b:=by cases op<;>simp_all [AT]
@[simp] theorem c98 (op:BinOp) (a b:List UInt8):AT op (.str a) (.str b)=DZ op a b:=by cases op<;>rfl
@[simp] theorem wk (i:Nat) (h:i<9223372036854775807):IntKind.i64.wrap ((i:Int)+1)=((i+1:Nat):Int):=by
 show (if (true&&decide (((i:Int)+1) % 18446744073709551616≥9223372036854775808))=true then((i:Int)+1) % 18446744073709551616 - 18446744073709551616 else((i:Int)+1) % 18446744073709551616)=_
 simp only[cn,an]
 split<;>omega
theorem xl (n:Int) (h1 : -9223372036854775808≤n) (h2:n≤9223372036854775807):IntKind.i64.wrap n=n:=by
 show (if (true&&decide (n % 18446744073709551616≥9223372036854775808))=true then n % 18446744073709551616 - 18446744073709551616 else n % 18446744073709551616)=_
 simp only[cn,an]
 split<;>omega
theorem GC (l:List PV):wu l=l.all wr:=by induction l<;>simp_all
@[simp] theorem c28 (a b:List PV):wu (a++b)=(wu a&&wu b):=by simp[GC,b9]
@[simp] theorem c59 (l:List PV) (n:Nat) (h:wu l=true):wu (l.take n)=true:=by
 rw[GC,aG] at *
 exact λx hx=>h x (List.mem_of_mem_take hx)
@[simp] theorem c6a (l:List PV) (n:Nat) (h:wu l=true):wu (l.drop n)=true:=by
 rw[GC,aG] at *
 exact λx hx=>h x (cu hx)
theorem As {α:Type} {f:α→PV} (h:∀x,wr (f x)=true) (l:List α):wu (l.map f)=true:=by
 rw[GC,aG]; intro x hx; obtain⟨y,_,rfl⟩:=aM.1 hx; exact h y
@[simp] theorem c7T (l:List (List UInt8)):wu (l.map PV.str)=true:=As (λ_=>rfl) l
@[simp] theorem c7U (l:List (List UInt8)):wL 1 (l.map PV.str)=true:=by cases l<;>simp
@[simp] theorem c7V (l:List Int):wu (l.map (PV.int .i64))=true:=As (λ_=>rfl) l
@[simp] theorem c7W (l:List Int):wL 1 (l.map (PV.int .i64))=true:=by cases l<;>simp
namespace Sc
abbrev Str:=List UInt8
structure On where
 name:Str
 t:Int
 tag:Int
 deriving Inhabited,DecidableEq
def eOn (x:On):PV := .agg [.str x.name,.int .i64 x.t,.int .i64 x.tag]
theorem MZ (x:On):eOn x = .agg [.str x.name,.int .i64 x.t,.int .i64 x.tag]:=rfl
@[simp] theorem c7X (x:On):(eOn x).cells=[.str x.name,.int .i64 x.t,.int .i64 x.tag]:=rfl
@[simp] theorem d2B (x:On):cp (eOn x)=some (eOn x):=rfl
@[simp] theorem d1E (x:On):tkv (eOn x)=some (eOn x,false):=rfl
@[simp] theorem c29 (x:On):zU (eOn x)=some (eOn x).cells:=rfl
@[simp] theorem d1F (x:On):dem (eOn x)=eOn x:=rfl
@[simp] theorem c99 (x:On):yZ (eOn x)=eOn x:=rfl
@[simp] theorem d0a (x:On):w9 (eOn x)=none:=rfl
@[simp] theorem c1K (x:On):PV.agg [.str x.name,.int .i64 x.t,.int .i64 x.tag]=eOn x:=(MZ x).symm
@[simp] theorem d0b (h:List PObj) (x:On):xC h (eOn x)=some (eOn x):=by
 rw[MZ]; simp[-c1K]
@[simp] theorem d1G (l:List On):wL 3 (l.map eOn)=true:=by cases l<;>simp
@[simp] theorem d2C (x y:On):peq true [.s,.i,.i] (eOn x) (eOn y)=some (decide (x=y)):=by
 cases x; cases y
 simp only[eOn,peq,if_true,zA,zZ,ar,ay,aa,On.mk.injEq,b8]
 rw[aC]; simp
structure Decl where
 name:Str
 type:Int
 clock:List On
 deriving Inhabited,DecidableEq
def wc (x:Decl):PV := .agg [.str x.name,.int .i64 x.type,.list false (x.clock.map eOn)]
theorem GD (x:Decl):wc x = .agg [.str x.name,.int .i64 x.type,.list false (x.clock.map eOn)]:=rfl
@[simp] theorem c4v (x:Decl):(wc x).cells=[.str x.name,.int .i64 x.type,.list false (x.clock.map eOn)]:=rfl
@[simp] theorem d0c (x:Decl):cp (wc x)=some (wc x):=rfl
@[simp] theorem c7Y (x:Decl):tkv (wc x)=some (wc x,false):=rfl
@[simp] theorem c02 (x:Decl):zU (wc x)=some (wc x).cells:=rfl
@[simp] theorem c7Z (x:Decl):dem (wc x)=wc x:=rfl
@[simp] theorem c6b (x:Decl):yZ (wc x)=wc x:=rfl
@[simp] theorem c6c (x:Decl):w9 (wc x)=none:=rfl
@[simp] theorem M0 (x:Decl):PV.agg [.str x.name,.int .i64 x.type,.list false (x.clock.map eOn)]=wc x:=(GD x).symm
@[simp] theorem c6d (h:List PObj) (x:Decl):xC h (wc x)=some (wc x):=by
 rw[GD]; simp[-M0]
@[simp] theorem c70 (l:List Decl):wL 3 (l.map wc)=true:=by cases l<;>simp
structure Enum where
 name:Str
 tags:List Str
 deriving Inhabited,DecidableEq
def wo (x:Enum):PV := .agg [.str x.name,.list false (x.tags.map PV.str)]
theorem Jy (x:Enum):wo x = .agg [.str x.name,.list false (x.tags.map PV.str)]:=rfl
@[simp] theorem c4w (x:Enum):(wo x).cells=[.str x.name,.list false (x.tags.map PV.str)]:=rfl
@[simp] theorem d0d (x:Enum):cp (wo x)=some (wo x):=rfl
@[simp] theorem c71 (x:Enum):tkv (wo x)=some (wo x,false):=rfl
@[simp] theorem c03 (x:Enum):zU (wo x)=some (wo x).cells:=rfl
@[simp] theorem c72 (x:Enum):dem (wo x)=wo x:=rfl
@[simp] theorem c6e (x:Enum):yZ (wo x)=wo x:=rfl
@[simp] theorem c6f (x:Enum):w9 (wo x)=none:=rfl
@[simp] theorem M1 (x:Enum):PV.agg [.str x.name,.list false (x.tags.map PV.str)]=wo x:=(Jy x).symm
@[simp] theorem c6g (h:List PObj) (x:Enum):xC h (wo x)=some (wo x):=by
 rw[Jy]; simp[-M1]
@[simp] theorem c73 (l:List Enum):wL 2 (l.map wo)=true:=by cases l<;>simp
inductive Expr where
 | mk (kind:Int) (op:Int) (t:Int) (v:Int) (name:Str) (args:List Expr)
instance:Inhabited Expr:=⟨.mk 0 0 0 0 [] []⟩
def Expr.kind:Expr→Int | .mk x _ _ _ _ _=>x
@[simp] theorem Expr.kind_mk (kind:Int) (op:Int) (t:Int) (v:Int) (name:Str) (args:List Expr):(Expr.mk kind op t v name args).kind=kind:=rfl
def Expr.op:Expr→Int | .mk _ x _ _ _ _=>x
@[simp] theorem Expr.op_mk (kind:Int) (op:Int) (t:Int) (v:Int) (name:Str) (args:List Expr):(Expr.mk kind op t v name args).op=op:=rfl
def Expr.t:Expr→Int | .mk _ _ x _ _ _=>x
@[simp] theorem Expr.t_mk (kind:Int) (op:Int) (t:Int) (v:Int) (name:Str) (args:List Expr):(Expr.mk kind op t v name args).t=t:=rfl
def Expr.v:Expr→Int | .mk _ _ _ x _ _=>x
@[simp] theorem Expr.v_mk (kind:Int) (op:Int) (t:Int) (v:Int) (name:Str) (args:List Expr):(Expr.mk kind op t v name args).v=v:=rfl
def Expr.name:Expr→Str | .mk _ _ _ _ x _=>x
@[simp] theorem Expr.name_mk (kind:Int) (op:Int) (t:Int) (v:Int) (name:Str) (args:List Expr):(Expr.mk kind op t v name args).name=name:=rfl
def Expr.args:Expr→List Expr | .mk _ _ _ _ _ x=>x
@[simp] theorem Expr.args_mk (kind:Int) (op:Int) (t:Int) (v:Int) (name:Str) (args:List Expr):(Expr.mk kind op t v name args).args=args:=rfl
mutual
def vX:Expr→PV
 | .mk k o t v n as => .agg [.int .i64 k,.int .i64 o,.int .i64 t,.int .i64 v,.str n,.list false (DK as)]
def DK:List Expr→List PV
 | []=>[]
 | x::xs=>vX x::DK xs
end
theorem M2:∀l:List Expr,DK l=l.map vX
 | []=>rfl
 | x::xs=>by simp[DK,M2 xs]
theorem A8 (x:Expr):vX x = .agg [.int .i64 x.kind,.int .i64 x.op,.int .i64 x.t,.int .i64 x.v,.str x.name,.list false (x.args.map vX)]:=by cases x; simp[vX,M2,Expr.kind,Expr.op,Expr.t,Expr.v,Expr.name,Expr.args]
@[simp] theorem c4x (x:Expr):(vX x).cells=[.int .i64 x.kind,.int .i64 x.op,.int .i64 x.t,.int .i64 x.v,.str x.name,.list false (x.args.map vX)]:=by rw[A8]; rfl
@[simp] theorem d0e (x:Expr):cp (vX x)=some (vX x):=by rw[A8]; rfl
@[simp] theorem c74 (x:Expr):tkv (vX x)=some (vX x,false):=by rw[A8]; rfl
@[simp] theorem c04 (x:Expr):zU (vX x)=some (vX x).cells:=by rw[A8]; rfl
@[simp] theorem b91 (x:Expr):dem (vX x)=vX x:=by rw[A8]; rfl
@[simp] theorem c6h (x:Expr):yZ (vX x)=vX x:=by rw[A8]; rfl
@[simp] theorem c6i (x:Expr):w9 (vX x)=none:=by rw[A8]; rfl
@[simp] theorem b8F (x:Expr):PV.agg [.int .i64 x.kind,.int .i64 x.op,.int .i64 x.t,.int .i64 x.v,.str x.name,.list false (x.args.map vX)]=vX x:=(A8 x).symm
@[simp] theorem c6j (h:List PObj) (x:Expr):xC h (vX x)=some (vX x):=by
 rw[A8]; simp[-b8F]
@[simp] theorem c75 (l:List Expr):wL 6 (l.map vX)=true:=by cases l<;>simp
structure Eqn where
 left:List Str
 right:Expr
 deriving Inhabited
def ww (x:Eqn):PV := .agg [.list false (x.left.map PV.str),.int .i64 x.right.kind,.int .i64 x.right.op,.int .i64 x.right.t,.int .i64 x.right.v,.str x.right.name,.list false (x.right.args.map vX)]
theorem GE (x:Eqn):ww x = .agg [.list false (x.left.map PV.str),.int .i64 x.right.kind,.int .i64 x.right.op,.int .i64 x.right.t,.int .i64 x.right.v,.str x.right.name,.list false (x.right.args.map vX)]:=rfl
@[simp] theorem c6k (x:Eqn):(ww x).cells=[.list false (x.left.map PV.str),.int .i64 x.right.kind,.int .i64 x.right.op,.int .i64 x.right.t,.int .i64 x.right.v,.str x.right.name,.list false (x.right.args.map vX)]:=rfl
@[simp] theorem d1H (x:Eqn):cp (ww x)=some (ww x):=rfl
@[simp] theorem d0f (x:Eqn):tkv (ww x)=some (ww x,false):=rfl
@[simp] theorem c1L (x:Eqn):zU (ww x)=some (ww x).cells:=rfl
@[simp] theorem d0g (x:Eqn):dem (ww x)=ww x:=rfl
@[simp] theorem c76 (x:Eqn):yZ (ww x)=ww x:=rfl
@[simp] theorem c77 (x:Eqn):w9 (ww x)=none:=rfl
@[simp] theorem Jz (x:Eqn):PV.agg [.list false (x.left.map PV.str),.int .i64 x.right.kind,.int .i64 x.right.op,.int .i64 x.right.t,.int .i64 x.right.v,.str x.right.name,.list false (x.right.args.map vX)]=ww x:=(GE x).symm
@[simp] theorem c78 (h:List PObj) (x:Eqn):xC h (ww x)=some (ww x):=by
 rw[GE]; simp[-Jz]
@[simp] theorem d0h (l:List Eqn):wL 7 (l.map ww)=true:=by cases l<;>simp
structure Trn where
 cond:Expr
 to:Int
 resume:Bool
 deriving Inhabited
def wJ (x:Trn):PV := .agg [.int .i64 x.cond.kind,.int .i64 x.cond.op,.int .i64 x.cond.t,.int .i64 x.cond.v,.str x.cond.name,.list false (x.cond.args.map vX),.int .i64 x.to,.bool x.resume]
theorem GF (x:Trn):wJ x = .agg [.int .i64 x.cond.kind,.int .i64 x.cond.op,.int .i64 x.cond.t,.int .i64 x.cond.v,.str x.cond.name,.list false (x.cond.args.map vX),.int .i64 x.to,.bool x.resume]:=rfl
@[simp] theorem c6l (x:Trn):(wJ x).cells=[.int .i64 x.cond.kind,.int .i64 x.cond.op,.int .i64 x.cond.t,.int .i64 x.cond.v,.str x.cond.name,.list false (x.cond.args.map vX),.int .i64 x.to,.bool x.resume]:=rfl
@[simp] theorem d1I (x:Trn):cp (wJ x)=some (wJ x):=rfl
@[simp] theorem d0i (x:Trn):tkv (wJ x)=some (wJ x,false):=rfl
@[simp] theorem c1M (x:Trn):zU (wJ x)=some (wJ x).cells:=rfl
@[simp] theorem d0j (x:Trn):dem (wJ x)=wJ x:=rfl
@[simp] theorem c79 (x:Trn):yZ (wJ x)=wJ x:=rfl
@[simp] theorem c8a (x:Trn):w9 (wJ x)=none:=rfl
@[simp] theorem JA (x:Trn):PV.agg [.int .i64 x.cond.kind,.int .i64 x.cond.op,.int .i64 x.cond.t,.int .i64 x.cond.v,.str x.cond.name,.list false (x.cond.args.map vX),.int .i64 x.to,.bool x.resume]=wJ x:=(GF x).symm
@[simp] theorem c8b (h:List PObj) (x:Trn):xC h (wJ x)=some (wJ x):=by
 rw[GF]; simp[-JA]
@[simp] theorem d0k (l:List Trn):wL 8 (l.map wJ)=true:=by cases l<;>simp
inductive State where
 | mk (name:Str) (locals:List Decl) (eqs:List Eqn) (autos:List (List State)) (unl:List Trn) (til:List Trn)
instance:Inhabited State:=⟨.mk [] [] [] [] [] []⟩
def State.name:State→Str | .mk x _ _ _ _ _=>x
@[simp] theorem State.name_mk (name:Str) (locals:List Decl) (eqs:List Eqn) (autos:List (List State)) (unl:List Trn) (til:List Trn):(State.mk name locals eqs autos unl til).name=name:=rfl
def State.locals:State→List Decl | .mk _ x _ _ _ _=>x
@[simp] theorem State.locals_mk (name:Str) (locals:List Decl) (eqs:List Eqn) (autos:List (List State)) (unl:List Trn) (til:List Trn):(State.mk name locals eqs autos unl til).locals=locals:=rfl
def State.eqs:State→List Eqn | .mk _ _ x _ _ _=>x
@[simp] theorem State.eqs_mk (name:Str) (locals:List Decl) (eqs:List Eqn) (autos:List (List State)) (unl:List Trn) (til:List Trn):(State.mk name locals eqs autos unl til).eqs=eqs:=rfl
def State.autos:State→List (List State) | .mk _ _ _ x _ _=>x
@[simp] theorem State.autos_mk (name:Str) (locals:List Decl) (eqs:List Eqn) (autos:List (List State)) (unl:List Trn) (til:List Trn):(State.mk name locals eqs autos unl til).autos=autos:=rfl
def State.unl:State→List Trn | .mk _ _ _ _ x _=>x
@[simp] theorem State.unl_mk (name:Str) (locals:List Decl) (eqs:List Eqn) (autos:List (List State)) (unl:List Trn) (til:List Trn):(State.mk name locals eqs autos unl til).unl=unl:=rfl
def State.til:State→List Trn | .mk _ _ _ _ _ x=>x
@[simp] theorem State.til_mk (name:Str) (locals:List Decl) (eqs:List Eqn) (autos:List (List State)) (unl:List Trn) (til:List Trn):(State.mk name locals eqs autos unl til).til=til:=rfl
abbrev yU:=List State
mutual
def wF:State→PV
 | .mk n l e a u w => .agg [.str n,.list false (l.map wc),.list false (e.map ww),.list false (DL a),.list false (u.map wJ),.list false (w.map wJ)]
def DM:List State→List PV
 | []=>[]
 | x::xs=>wF x::DM xs
def DL:List (List State)→List PV
 | []=>[]
 | x::xs => .agg [.list false (DM x)]::DL xs
end
def wq (a:yU):PV := .agg [.list false (a.map wF)]
theorem M3:∀l:List State,DM l=l.map wF
 | []=>rfl
 | x::xs=>by simp[DM,M3 xs]
theorem M4:∀l:List (List State),DL l=l.map wq
 | []=>rfl
 | x::xs=>by simp[DL,M4 xs,M3,wq]
theorem Bw (x:State):wF x = .agg [.str x.name,.list false (x.locals.map wc),.list false (x.eqs.map ww),.list false (x.autos.map wq),.list false (x.unl.map wJ),.list false (x.til.map wJ)]:=by cases x; simp[wF,M4]
@[simp] theorem JB (x:State):(wF x).cells=[.str x.name,.list false (x.locals.map wc),.list false (x.eqs.map ww),.list false (x.autos.map wq),.list false (x.unl.map wJ),.list false (x.til.map wJ)]:=by rw[Bw]; rfl
@[simp] theorem c8c (x:State):cp (wF x)=some (wF x):=by rw[Bw]; rfl
@[simp] theorem c6m (x:State):tkv (wF x)=some (wF x,false):=by rw[Bw]; rfl
@[simp] theorem b92 (x:State):zU (wF x)=some (wF x).cells:=by rw[Bw]; rfl
@[simp] theorem c6n (x:State):dem (wF x)=wF x:=by rw[Bw]; rfl
@[simp] theorem c4y (x:State):yZ (wF x)=wF x:=by rw[Bw]; rfl
@[simp] theorem c4z (x:State):w9 (wF x)=none:=by rw[Bw]; rfl
@[simp] theorem b6N (x:State):PV.agg [.str x.name,.list false (x.locals.map wc),.list false (x.eqs.map ww),.list false (x.autos.map wq),.list false (x.unl.map wJ),.list false (x.til.map wJ)]=wF x:=(Bw x).symm
@[simp] theorem c4A (h:List PObj) (x:State):xC h (wF x)=some (wF x):=by
 rw[Bw]; simp[-b6N]
@[simp] theorem c6o (l:List State):wL 6 (l.map wF)=true:=by cases l<;>simp
theorem M5 (x:yU):wq x = .agg [.list false (x.map wF)]:=rfl
@[simp] theorem c4B (x:yU):(wq x).cells=[.list false (x.map wF)]:=rfl
@[simp] theorem d0l (x:yU):cp (wq x)=some (wq x):=rfl
@[simp] theorem c8d (x:yU):tkv (wq x)=some (wq x,false):=rfl
@[simp] theorem c05 (x:yU):zU (wq x)=some (wq x).cells:=rfl
@[simp] theorem c8e (x:yU):dem (wq x)=wq x:=rfl
@[simp] theorem c6p (x:yU):yZ (wq x)=wq x:=rfl
@[simp] theorem c6q (x:yU):w9 (wq x)=none:=rfl
@[simp] theorem M6 (x:yU):PV.agg [.list false (x.map wF)]=wq x:=rfl
@[simp] theorem c6r (h:List PObj) (x:yU):xC h (wq x)=some (wq x):=by
 rw[M5]; simp[-M6]
@[simp] theorem c8f (l:List yU):wL 1 (l.map wq)=true:=by cases l<;>simp
structure Node where
 name:Str
 ins:List Decl
 outs:List Decl
 locals:List Decl
 eqs:List Eqn
 autos:List (List State)
 assume:List Expr
 ensure:List Expr
 deriving Inhabited
def wE (x:Node):PV := .agg [.str x.name,.list false (x.ins.map wc),.list false (x.outs.map wc),.list false (x.locals.map wc),.list false (x.eqs.map ww),.list false (x.autos.map wq),.list false (x.assume.map vX),.list false (x.ensure.map vX)]
theorem M7 (x:Node):wE x = .agg [.str x.name,.list false (x.ins.map wc),.list false (x.outs.map wc),.list false (x.locals.map wc),.list false (x.eqs.map ww),.list false (x.autos.map wq),.list false (x.assume.map vX),.list false (x.ensure.map vX)]:=rfl
@[simp] theorem c4C (x:Node):(wE x).cells=[.str x.name,.list false (x.ins.map wc),.list false (x.outs.map wc),.list false (x.locals.map wc),.list false (x.eqs.map ww),.list false (x.autos.map wq),.list false (x.assume.map vX),.list false (x.ensure.map vX)]:=rfl
@[simp] theorem d0m (x:Node):cp (wE x)=some (wE x):=rfl
@[simp] theorem c8g (x:Node):tkv (wE x)=some (wE x,false):=rfl
@[simp] theorem c06 (x:Node):zU (wE x)=some (wE x).cells:=rfl
@[simp] theorem c8h (x:Node):dem (wE x)=wE x:=rfl
@[simp] theorem c6s (x:Node):yZ (wE x)=wE x:=rfl
@[simp] theorem c6t (x:Node):w9 (wE x)=none:=rfl
@[simp] theorem M8 (x:Node):PV.agg [.str x.name,.list false (x.ins.map wc),.list false (x.outs.map wc),.list false (x.locals.map wc),.list false (x.eqs.map ww),.list false (x.autos.map wq),.list false (x.assume.map vX),.list false (x.ensure.map vX)]=wE x:=rfl
@[simp] theorem c6u (h:List PObj) (x:Node):xC h (wE x)=some (wE x):=by
 rw[M7]; simp[-M8]
@[simp] theorem c8i (l:List Node):wL 8 (l.map wE)=true:=by cases l<;>simp
structure Prog where
 enums:List Enum
 nodes:List Node
 deriving Inhabited
def wT (x:Prog):PV := .agg [.list false (x.enums.map wo),.list false (x.nodes.map wE)]
theorem M9 (x:Prog):wT x = .agg [.list false (x.enums.map wo),.list false (x.nodes.map wE)]:=rfl
@[simp] theorem c4D (x:Prog):(wT x).cells=[.list false (x.enums.map wo),.list false (x.nodes.map wE)]:=rfl
@[simp] theorem d0n (x:Prog):cp (wT x)=some (wT x):=rfl
@[simp] theorem c8j (x:Prog):tkv (wT x)=some (wT x,false):=rfl
@[simp] theorem c07 (x:Prog):zU (wT x)=some (wT x).cells:=rfl
@[simp] theorem c8k (x:Prog):dem (wT x)=wT x:=rfl
@[simp] theorem c6v (x:Prog):yZ (wT x)=wT x:=rfl
@[simp] theorem c6w (x:Prog):w9 (wT x)=none:=rfl
@[simp] theorem Na (x:Prog):PV.agg [.list false (x.enums.map wo),.list false (x.nodes.map wE)]=wT x:=rfl
@[simp] theorem c6x (h:List PObj) (x:Prog):xC h (wT x)=some (wT x):=by
 rw[M9]; simp[-Na]
@[simp] theorem c8l (l:List Prog):wL 2 (l.map wT)=true:=by cases l<;>simp
mutual
theorem Nb:∀x:Expr,wr (vX x)=true
 | .mk k o t v n as=>by simp only[vX,wr,wu,Nc as,b8]
theorem Nc:∀l:List Expr,wu (DK l)=true
 | []=>rfl
 | x::xs=>by simp only[DK,wu,Nb x,Nc xs,b8]
end
@[simp] theorem b8G (x:Expr):wr (vX x)=true:=Nb x
@[simp] theorem c8m (l:List Expr):wu (l.map vX)=true:=As b8G l
@[simp] theorem c1N (x:On):wr (eOn x)=true:=rfl
@[simp] theorem d1J (l:List On):wu (l.map eOn)=true:=As c1N l
@[simp] theorem b8H (x:Decl):wr (wc x)=true:=by rw[GD]; simp[-M0]
@[simp] theorem b93 (l:List Decl):wu (l.map wc)=true:=As b8H l
@[simp] theorem b8I (x:Enum):wr (wo x)=true:=by rw[Jy]; simp[-M1]
@[simp] theorem c8n (l:List Enum):wu (l.map wo)=true:=As b8I l
@[simp] theorem b94 (x:Eqn):wr (ww x)=true:=by rw[GE]; simp[-Jz]
@[simp] theorem c1O (l:List Eqn):wu (l.map ww)=true:=As b94 l
@[simp] theorem b95 (x:Trn):wr (wJ x)=true:=by rw[GF]; simp[-JA]
@[simp] theorem c1P (l:List Trn):wu (l.map wJ)=true:=As b95 l
mutual
theorem Nd:∀x:State,wr (wF x)=true
 | .mk n l e a u w=>by simp only[wF,wr,wu,b93,c1O,c1P,Nf a,b8]
theorem Ng:∀l:List State,wu (DM l)=true
 | []=>rfl
 | x::xs=>by simp only[DM,wu,Nd x,Ng xs,b8]
theorem Nf:∀l:List (List State),wu (DL l)=true
 | []=>rfl
 | x::xs=>by simp only[DL,wu,wr,Ng x,Nf xs,b8]
end
@[simp] theorem b6O (x:State):wr (wF x)=true:=Nd x
@[simp] theorem b8J (l:List State):wu (l.map wF)=true:=As b6O l
@[simp] theorem b8K (x:yU):wr (wq x)=true:=by simp[M5,-M6]
@[simp] theorem c8o (l:List yU):wu (l.map wq)=true:=As b8K l
@[simp] theorem b8L (x:Node):wr (wE x)=true:=by rw[M7]; simp[-M8]
@[simp] theorem c8p (l:List Node):wu (l.map wE)=true:=As b8L l
@[simp] theorem c6y (x:Prog):wr (wT x)=true:=by rw[M9]; simp[-Na]
end Sc
end PI
