import Derived.Test.YtljbhgpanekomaaGreatPiLaw
set_option linter.unusedSimpArgs false
namespace PI
open Go (IntKind BinOp UnOp)
attribute [simp] yu Cc Cb
@[simp] theorem c8z (s:Nat):zj s []=true:=rfl
@[simp] theorem c6B (s:Nat) (e:PV) (r:List PV):zj s (e::r)=(e.cells.length==s):=rfl
@[simp] theorem c8A (b:Bool):(PV.bool b).cells=[.bool b]:=rfl
@[simp] theorem d0b (k:IntKind) (n:Int):(PV.int k n).cells=[.int k n]:=rfl
@[simp] theorem cells_str (s:List UInt8):(PV.str s).cells=[.str s]:=rfl
@[simp] theorem c8B (o:Bool) (s:List PV):(PV.list o s).cells=[.list o s]:=rfl
@[simp] theorem d0c (b:Bool):(PV.bool b).flat=true:=rfl
@[simp] theorem d2q (k:IntKind) (n:Int):(PV.int k n).flat=true:=rfl
@[simp] theorem d2r (s:List UInt8):(PV.str s).flat=true:=rfl
@[simp] theorem d0d (o:Bool) (s:List PV):(PV.list o s).flat=true:=rfl
@[simp] theorem d2s (n o:Nat):(PV.ptr n o).flat=true:=rfl
@[simp] theorem c6C:PV.nilptr.flat=true:=rfl
@[simp] theorem d2t (n:Option Nat):(PV.map n).flat=true:=rfl
@[simp] theorem d0e (n s:Nat) (a:Bool) (l:Nat):(PV.rowp n s a l).flat=true:=rfl
@[simp] theorem d2u (op:BinOp) (h1:op≠.shl) (h2:op≠.shr) (k:IntKind) (a b:Int):Dl op (.int k a) (.int k b)=GX op k a b:=by cases op<;>simp_all [Dl]
@[simp] theorem d2v (op:BinOp) (a b:List UInt8):Dl op (.str a) (.str b)=GY op a b:=by cases op<;>rfl
@[simp] theorem yz (i:Nat) (h:i<9223372036854775807):IntKind.i64.wrap ((i:Int)+1)=((i+1:Nat):Int):=by
 show (if (true&&decide (((i:Int)+1) % 18446744073709551616≥9223372036854775808))=true then((i:Int)+1) % 18446744073709551616 - 18446744073709551616 else((i:Int)+1) % 18446744073709551616)=_
 simp only[cy,ay]
 split<;>omega
theorem Fq (n:Int) (h1 : -9223372036854775808≤n) (h2:n≤9223372036854775807):IntKind.i64.wrap n=n:=by
 show (if (true&&decide (n % 18446744073709551616≥9223372036854775808))=true then n % 18446744073709551616 - 18446744073709551616 else n % 18446744073709551616)=_
 simp only[cy,ay]
 split<;>omega
theorem JC (l:List PV):yD l=l.all yC:=by induction l<;>simp_all
@[simp] theorem c5w (a b:List PV):yD (a++b)=(yD a&&yD b):=by simp[JC,cz]
@[simp] theorem c8C (l:List PV) (n:Nat) (h:yD l=true):yD (l.take n)=true:=by
 rw[JC,aN] at *
 exact λx hx=>h x (List.mem_of_mem_take hx)
@[simp] theorem c8D (l:List PV) (n:Nat) (h:yD l=true):yD (l.drop n)=true:=by
 rw[JC,aN] at *
 exact λx hx=>h x (cM hx)
theorem Da {α:Type} {f:α→PV} (h:∀x,yC (f x)=true) (l:List α):yD (l.map f)=true:=by
 rw[JC,aN]; intro x hx; obtain⟨y,_,rfl⟩:=bh.1 hx; exact h y
@[simp] theorem d0f (l:List (List UInt8)):yD (l.map PV.str)=true:=Da (λ_=>rfl) l
@[simp] theorem d0g (l:List (List UInt8)):zj 1 (l.map PV.str)=true:=by cases l<;>simp
@[simp] theorem d0h (l:List Int):yD (l.map (PV.int .i64))=true:=Da (λ_=>rfl) l
@[simp] theorem d0i (l:List Int):zj 1 (l.map (PV.int .i64))=true:=by cases l<;>simp
namespace Sc
abbrev Str:=List UInt8
structure On where
 name:Str
 t:Int
 tag:Int
 deriving Inhabited,DecidableEq
def eOn (x:On):PV := .agg [.str x.name,.int .i64 x.t,.int .i64 x.tag]
theorem Qh (x:On):eOn x = .agg [.str x.name,.int .i64 x.t,.int .i64 x.tag]:=rfl
@[simp] theorem d0j (x:On):(eOn x).cells=[.str x.name,.int .i64 x.t,.int .i64 x.tag]:=rfl
@[simp] theorem d5f (x:On):cp (eOn x)=some (eOn x):=rfl
@[simp] theorem d35 (x:On):tkv (eOn x)=some (eOn x,false):=rfl
@[simp] theorem c5x (x:On):CP (eOn x)=some (eOn x).cells:=rfl
@[simp] theorem d36 (x:On):dem (eOn x)=eOn x:=rfl
@[simp] theorem d2w (x:On):AN (eOn x)=eOn x:=rfl
@[simp] theorem d2x (x:On):zw (eOn x)=none:=rfl
@[simp] theorem c3S (x:On):PV.agg [.str x.name,.int .i64 x.t,.int .i64 x.tag]=eOn x:=(Qh x).symm
@[simp] theorem d2y (h:List PObj) (x:On):zY h (eOn x)=some (eOn x):=by
 rw[Qh]; simp[-c3S]
@[simp] theorem d37 (l:List On):zj 3 (l.map eOn)=true:=by cases l<;>simp
@[simp] theorem d5g (x y:On):peq true [.s,.i,.i] (eOn x) (eOn y)=some (decide (x=y)):=by
 cases x; cases y
 simp only[eOn,peq,if_true,A4,Bo,ar,aC,aa,On.mk.injEq,bz]
 rw[aT]; simp
structure Decl where
 name:Str
 type:Int
 clock:List On
 deriving Inhabited,DecidableEq
def yw (x:Decl):PV := .agg [.str x.name,.int .i64 x.type,.list false (x.clock.map eOn)]
theorem JD (x:Decl):yw x = .agg [.str x.name,.int .i64 x.type,.list false (x.clock.map eOn)]:=rfl
@[simp] theorem c6D (x:Decl):(yw x).cells=[.str x.name,.int .i64 x.type,.list false (x.clock.map eOn)]:=rfl
@[simp] theorem d2z (x:Decl):cp (yw x)=some (yw x):=rfl
@[simp] theorem d0k (x:Decl):tkv (yw x)=some (yw x,false):=rfl
@[simp] theorem c3s (x:Decl):CP (yw x)=some (yw x).cells:=rfl
@[simp] theorem d0l (x:Decl):dem (yw x)=yw x:=rfl
@[simp] theorem c8E (x:Decl):AN (yw x)=yw x:=rfl
@[simp] theorem c8F (x:Decl):zw (yw x)=none:=rfl
@[simp] theorem Qi (x:Decl):PV.agg [.str x.name,.int .i64 x.type,.list false (x.clock.map eOn)]=yw x:=(JD x).symm
@[simp] theorem c8G (h:List PObj) (x:Decl):zY h (yw x)=some (yw x):=by
 rw[JD]; simp[-Qi]
@[simp] theorem d0m (l:List Decl):zj 3 (l.map yw)=true:=by cases l<;>simp
structure Enum where
 name:Str
 tags:List Str
 deriving Inhabited,DecidableEq
def yG (x:Enum):PV := .agg [.str x.name,.list false (x.tags.map PV.str)]
theorem ML (x:Enum):yG x = .agg [.str x.name,.list false (x.tags.map PV.str)]:=rfl
@[simp] theorem c6E (x:Enum):(yG x).cells=[.str x.name,.list false (x.tags.map PV.str)]:=rfl
@[simp] theorem d2A (x:Enum):cp (yG x)=some (yG x):=rfl
@[simp] theorem d0n (x:Enum):tkv (yG x)=some (yG x,false):=rfl
@[simp] theorem c3t (x:Enum):CP (yG x)=some (yG x).cells:=rfl
@[simp] theorem d0o (x:Enum):dem (yG x)=yG x:=rfl
@[simp] theorem c8H (x:Enum):AN (yG x)=yG x:=rfl
@[simp] theorem c8I (x:Enum):zw (yG x)=none:=rfl
@[simp] theorem Qj (x:Enum):PV.agg [.str x.name,.list false (x.tags.map PV.str)]=yG x:=(ML x).symm
@[simp] theorem c8J (h:List PObj) (x:Enum):zY h (yG x)=some (yG x):=by
 rw[ML]; simp[-Qj]
@[simp] theorem d0p (l:List Enum):zj 2 (l.map yG)=true:=by cases l<;>simp
inductive Expr where
 | mk (kind:Int) (op:Int) (t:Int) (v:Int) (name:Str) (args:List Expr)
instance:Inhabited Expr:=⟨.mk 0 0 0 0 [] []⟩
def Expr.kind:Expr→Int | .mk x _ _ _ _ _=>x
@[simp] theorem Expr.kind_mk (kind:Int) (op:Int) (t:Int) (v:Int) (name:Str) (args:List Expr):(Expr.mk kind op t v name args).kind=kind:=rfl
def Expr.op:Expr→Int | .mk _ x _ _ _ _=>x
@[simp] theorem Expr.op_mk (kind:Int) (op:Int) (t:Int) (v:Int) (name:Str) (args:List Expr):(Expr.mk kind op t v name args).op=op:=rfl
def Expr.t:Expr→Int | .mk _ _ x _ _ _=>x
@[simp] theorem Expr.t_mk (kind:Int) (op:Int) (t:Int) (v:Int) (name:Str) (args:List Expr):(Expr.mk kind op t v name args).t=t:=rfl
def Expr.v:Expr→Int | .mk _ _ _ x _ _=>x
@[simp] theorem Expr.v_mk (kind:Int) (op:Int) (t:Int) (v:Int) (name:Str) (args:List Expr):(Expr.mk kind op t v name args).v=v:=rfl
def Expr.name:Expr→Str | .mk _ _ _ _ x _=>x
@[simp] theorem Expr.name_mk (kind:Int) (op:Int) (t:Int) (v:Int) (name:Str) (args:List Expr):(Expr.mk kind op t v name args).name=name:=rfl
def Expr.args:Expr→List Expr | .mk _ _ _ _ _ x=>x
@[simp] theorem Expr.args_mk (kind:Int) (op:Int) (t:Int) (v:Int) (name:Str) (args:List Expr):(Expr.mk kind op t v name args).args=args:=rfl
mutual
def yq:Expr→PV
 | .mk k o t v n as => .agg [.int .i64 k,.int .i64 o,.int .i64 t,.int .i64 v,.str n,.list false (F9 as)]
def F9:List Expr→List PV
 | []=>[]
 | x::xs=>yq x::F9 xs
end
theorem Qk:∀l:List Expr,F9 l=l.map yq
 | []=>rfl
 | x::xs=>by simp[F9,Qk xs]
theorem Ds (x:Expr):yq x = .agg [.int .i64 x.kind,.int .i64 x.op,.int .i64 x.t,.int .i64 x.v,.str x.name,.list false (x.args.map yq)]:=by cases x; simp[yq,Qk,Expr.kind,Expr.op,Expr.t,Expr.v,Expr.name,Expr.args]
@[simp] theorem c6F (x:Expr):(yq x).cells=[.int .i64 x.kind,.int .i64 x.op,.int .i64 x.t,.int .i64 x.v,.str x.name,.list false (x.args.map yq)]:=by rw[Ds]; rfl
@[simp] theorem d2B (x:Expr):cp (yq x)=some (yq x):=by rw[Ds]; rfl
@[simp] theorem d0q (x:Expr):tkv (yq x)=some (yq x,false):=by rw[Ds]; rfl
@[simp] theorem c3u (x:Expr):CP (yq x)=some (yq x).cells:=by rw[Ds]; rfl
@[simp] theorem c1F (x:Expr):dem (yq x)=yq x:=by rw[Ds]; rfl
@[simp] theorem c8K (x:Expr):AN (yq x)=yq x:=by rw[Ds]; rfl
@[simp] theorem c8L (x:Expr):zw (yq x)=none:=by rw[Ds]; rfl
@[simp] theorem c0m (x:Expr):PV.agg [.int .i64 x.kind,.int .i64 x.op,.int .i64 x.t,.int .i64 x.v,.str x.name,.list false (x.args.map yq)]=yq x:=(Ds x).symm
@[simp] theorem c8M (h:List PObj) (x:Expr):zY h (yq x)=some (yq x):=by
 rw[Ds]; simp[-c0m]
@[simp] theorem d0r (l:List Expr):zj 6 (l.map yq)=true:=by cases l<;>simp
structure Eqn where
 left:List Str
 right:Expr
 deriving Inhabited
def yZ (x:Eqn):PV := .agg [.list false (x.left.map PV.str),.int .i64 x.right.kind,.int .i64 x.right.op,.int .i64 x.right.t,.int .i64 x.right.v,.str x.right.name,.list false (x.right.args.map yq)]
theorem Hz (x:Eqn):yZ x = .agg [.list false (x.left.map PV.str),.int .i64 x.right.kind,.int .i64 x.right.op,.int .i64 x.right.t,.int .i64 x.right.v,.str x.right.name,.list false (x.right.args.map yq)]:=rfl
@[simp] theorem c8N (x:Eqn):(yZ x).cells=[.list false (x.left.map PV.str),.int .i64 x.right.kind,.int .i64 x.right.op,.int .i64 x.right.t,.int .i64 x.right.v,.str x.right.name,.list false (x.right.args.map yq)]:=rfl
@[simp] theorem d38 (x:Eqn):cp (yZ x)=some (yZ x):=rfl
@[simp] theorem d2C (x:Eqn):tkv (yZ x)=some (yZ x,false):=rfl
@[simp] theorem c3T (x:Eqn):CP (yZ x)=some (yZ x).cells:=rfl
@[simp] theorem d2D (x:Eqn):dem (yZ x)=yZ x:=rfl
@[simp] theorem d0s (x:Eqn):AN (yZ x)=yZ x:=rfl
@[simp] theorem d0t (x:Eqn):zw (yZ x)=none:=rfl
@[simp] theorem MM (x:Eqn):PV.agg [.list false (x.left.map PV.str),.int .i64 x.right.kind,.int .i64 x.right.op,.int .i64 x.right.t,.int .i64 x.right.v,.str x.right.name,.list false (x.right.args.map yq)]=yZ x:=(Hz x).symm
@[simp] theorem d0u (h:List PObj) (x:Eqn):zY h (yZ x)=some (yZ x):=by
 rw[Hz]; simp[-MM]
@[simp] theorem d2E (l:List Eqn):zj 7 (l.map yZ)=true:=by cases l<;>simp
structure Trn where
 cond:Expr
 to:Int
 resume:Bool
 deriving Inhabited
def zF (x:Trn):PV := .agg [.int .i64 x.cond.kind,.int .i64 x.cond.op,.int .i64 x.cond.t,.int .i64 x.cond.v,.str x.cond.name,.list false (x.cond.args.map yq),.int .i64 x.to,.bool x.resume]
theorem HA (x:Trn):zF x = .agg [.int .i64 x.cond.kind,.int .i64 x.cond.op,.int .i64 x.cond.t,.int .i64 x.cond.v,.str x.cond.name,.list false (x.cond.args.map yq),.int .i64 x.to,.bool x.resume]:=rfl
@[simp] theorem c8O (x:Trn):(zF x).cells=[.int .i64 x.cond.kind,.int .i64 x.cond.op,.int .i64 x.cond.t,.int .i64 x.cond.v,.str x.cond.name,.list false (x.cond.args.map yq),.int .i64 x.to,.bool x.resume]:=rfl
@[simp] theorem d39 (x:Trn):cp (zF x)=some (zF x):=rfl
@[simp] theorem d2F (x:Trn):tkv (zF x)=some (zF x,false):=rfl
@[simp] theorem c3U (x:Trn):CP (zF x)=some (zF x).cells:=rfl
@[simp] theorem d2G (x:Trn):dem (zF x)=zF x:=rfl
@[simp] theorem d0v (x:Trn):AN (zF x)=zF x:=rfl
@[simp] theorem d0w (x:Trn):zw (zF x)=none:=rfl
@[simp] theorem MN (x:Trn):PV.agg [.int .i64 x.cond.kind,.int .i64 x.cond.op,.int .i64 x.cond.t,.int .i64 x.cond.v,.str x.cond.name,.list false (x.cond.args.map yq),.int .i64 x.to,.bool x.resume]=zF x:=(HA x).symm
@[simp] theorem d0x (h:List PObj) (x:Trn):zY h (zF x)=some (zF x):=by
 rw[HA]; simp[-MN]
@[simp] theorem d2H (l:List Trn):zj 8 (l.map zF)=true:=by cases l<;>simp
inductive State where
 | mk (name:Str) (locals:List Decl) (eqs:List Eqn) (autos:List (List State)) (unl:List Trn) (til:List Trn)
instance:Inhabited State:=⟨.mk [] [] [] [] [] []⟩
def State.name:State→Str | .mk x _ _ _ _ _=>x
@[simp] theorem State.name_mk (name:Str) (locals:List Decl) (eqs:List Eqn) (autos:List (List State)) (unl:List Trn) (til:List Trn):(State.mk name locals eqs autos unl til).name=name:=rfl
def State.locals:State→List Decl | .mk _ x _ _ _ _=>x
@[simp] theorem State.locals_mk (name:Str) (locals:List Decl) (eqs:List Eqn) (autos:List (List State)) (unl:List Trn) (til:List Trn):(State.mk name locals eqs autos unl til).locals=locals:=rfl
def State.eqs:State→List Eqn | .mk _ _ x _ _ _=>x
@[simp] theorem State.eqs_mk (name:Str) (locals:List Decl) (eqs:List Eqn) (autos:List (List State)) (unl:List Trn) (til:List Trn):(State.mk name locals eqs autos unl til).eqs=eqs:=rfl
def State.autos:State→List (List State) | .mk _ _ _ x _ _=>x
@[simp] theorem State.autos_mk (name:Str) (locals:List Decl) (eqs:List Eqn) (autos:List (List State)) (unl:List Trn) (til:List Trn):(State.mk name locals eqs autos unl til).autos=autos:=rfl
def State.unl:State→List Trn | .mk _ _ _ _ x _=>x
@[simp] theorem State.unl_mk (name:Str) (locals:List Decl) (eqs:List Eqn) (autos:List (List State)) (unl:List Trn) (til:List Trn):(State.mk name locals eqs autos unl til).unl=unl:=rfl
def State.til:State→List Trn | .mk _ _ _ _ _ x=>x
@[simp] theorem State.til_mk (name:Str) (locals:List Decl) (eqs:List Eqn) (autos:List (List State)) (unl:List Trn) (til:List Trn):(State.mk name locals eqs autos unl til).til=til:=rfl
abbrev Bu:=List State
mutual
def yQ:State→PV
 | .mk n l e a u w => .agg [.str n,.list false (l.map yw),.list false (e.map yZ),.list false (Ga a),.list false (u.map zF),.list false (w.map zF)]
def Gb:List State→List PV
 | []=>[]
 | x::xs=>yQ x::Gb xs
def Ga:List (List State)→List PV
 | []=>[]
 | x::xs => .agg [.list false (Gb x)]::Ga xs
end
def zk (a:Bu):PV := .agg [.list false (a.map yQ)]
theorem Ql:∀l:List State,Gb l=l.map yQ
 | []=>rfl
 | x::xs=>by simp[Gb,Ql xs]
theorem Qm:∀l:List (List State),Ga l=l.map zk
 | []=>rfl
 | x::xs=>by simp[Ga,Qm xs,Ql,zk]
theorem Dt (x:State):yQ x = .agg [.str x.name,.list false (x.locals.map yw),.list false (x.eqs.map yZ),.list false (x.autos.map zk),.list false (x.unl.map zF),.list false (x.til.map zF)]:=by cases x; simp[yQ,Qm]
@[simp] theorem MO (x:State):(yQ x).cells=[.str x.name,.list false (x.locals.map yw),.list false (x.eqs.map yZ),.list false (x.autos.map zk),.list false (x.unl.map zF),.list false (x.til.map zF)]:=by rw[Dt]; rfl
@[simp] theorem d0y (x:State):cp (yQ x)=some (yQ x):=by rw[Dt]; rfl
@[simp] theorem c8P (x:State):tkv (yQ x)=some (yQ x,false):=by rw[Dt]; rfl
@[simp] theorem c1G (x:State):CP (yQ x)=some (yQ x).cells:=by rw[Dt]; rfl
@[simp] theorem c8Q (x:State):dem (yQ x)=yQ x:=by rw[Dt]; rfl
@[simp] theorem c6G (x:State):AN (yQ x)=yQ x:=by rw[Dt]; rfl
@[simp] theorem c6H (x:State):zw (yQ x)=none:=by rw[Dt]; rfl
@[simp] theorem b8j (x:State):PV.agg [.str x.name,.list false (x.locals.map yw),.list false (x.eqs.map yZ),.list false (x.autos.map zk),.list false (x.unl.map zF),.list false (x.til.map zF)]=yQ x:=(Dt x).symm
@[simp] theorem c6I (h:List PObj) (x:State):zY h (yQ x)=some (yQ x):=by
 rw[Dt]; simp[-b8j]
@[simp] theorem c8R (l:List State):zj 6 (l.map yQ)=true:=by cases l<;>simp
theorem Qn (x:Bu):zk x = .agg [.list false (x.map yQ)]:=rfl
@[simp] theorem c6J (x:Bu):(zk x).cells=[.list false (x.map yQ)]:=rfl
@[simp] theorem d2I (x:Bu):cp (zk x)=some (zk x):=rfl
@[simp] theorem d0z (x:Bu):tkv (zk x)=some (zk x,false):=rfl
@[simp] theorem c3v (x:Bu):CP (zk x)=some (zk x).cells:=rfl
@[simp] theorem d0A (x:Bu):dem (zk x)=zk x:=rfl
@[simp] theorem c8S (x:Bu):AN (zk x)=zk x:=rfl
@[simp] theorem c8T (x:Bu):zw (zk x)=none:=rfl
@[simp] theorem Qo (x:Bu):PV.agg [.list false (x.map yQ)]=zk x:=rfl
@[simp] theorem c8U (h:List PObj) (x:Bu):zY h (zk x)=some (zk x):=by
 rw[Qn]; simp[-Qo]
@[simp] theorem d0B (l:List Bu):zj 1 (l.map zk)=true:=by cases l<;>simp
structure Node where
 name:Str
 ins:List Decl
 outs:List Decl
 locals:List Decl
 eqs:List Eqn
 autos:List (List State)
 assume:List Expr
 ensure:List Expr
 deriving Inhabited
def yL (x:Node):PV := .agg [.str x.name,.list false (x.ins.map yw),.list false (x.outs.map yw),.list false (x.locals.map yw),.list false (x.eqs.map yZ),.list false (x.autos.map zk),.list false (x.assume.map yq),.list false (x.ensure.map yq)]
theorem MP (x:Node):yL x = .agg [.str x.name,.list false (x.ins.map yw),.list false (x.outs.map yw),.list false (x.locals.map yw),.list false (x.eqs.map yZ),.list false (x.autos.map zk),.list false (x.assume.map yq),.list false (x.ensure.map yq)]:=rfl
@[simp] theorem c6K (x:Node):(yL x).cells=[.str x.name,.list false (x.ins.map yw),.list false (x.outs.map yw),.list false (x.locals.map yw),.list false (x.eqs.map yZ),.list false (x.autos.map zk),.list false (x.assume.map yq),.list false (x.ensure.map yq)]:=rfl
@[simp] theorem d2J (x:Node):cp (yL x)=some (yL x):=rfl
@[simp] theorem d0C (x:Node):tkv (yL x)=some (yL x,false):=rfl
@[simp] theorem c3w (x:Node):CP (yL x)=some (yL x).cells:=rfl
@[simp] theorem d0D (x:Node):dem (yL x)=yL x:=rfl
@[simp] theorem c8V (x:Node):AN (yL x)=yL x:=rfl
@[simp] theorem c8W (x:Node):zw (yL x)=none:=rfl
@[simp] theorem Qp (x:Node):PV.agg [.str x.name,.list false (x.ins.map yw),.list false (x.outs.map yw),.list false (x.locals.map yw),.list false (x.eqs.map yZ),.list false (x.autos.map zk),.list false (x.assume.map yq),.list false (x.ensure.map yq)]=yL x:=rfl
@[simp] theorem c8X (h:List PObj) (x:Node):zY h (yL x)=some (yL x):=by
 rw[MP]; simp[-Qp]
@[simp] theorem d0E (l:List Node):zj 8 (l.map yL)=true:=by cases l<;>simp
structure Prog where
 enums:List Enum
 nodes:List Node
 deriving Inhabited
def zA (x:Prog):PV := .agg [.list false (x.enums.map yG),.list false (x.nodes.map yL)]
theorem MQ (x:Prog):zA x = .agg [.list false (x.enums.map yG),.list false (x.nodes.map yL)]:=rfl
@[simp] theorem c6L (x:Prog):(zA x).cells=[.list false (x.enums.map yG),.list false (x.nodes.map yL)]:=rfl
@[simp] theorem d2K (x:Prog):cp (zA x)=some (zA x):=rfl
@[simp] theorem d0F (x:Prog):tkv (zA x)=some (zA x,false):=rfl
@[simp] theorem c3x (x:Prog):CP (zA x)=some (zA x).cells:=rfl
@[simp] theorem d0G (x:Prog):dem (zA x)=zA x:=rfl
@[simp] theorem c8Y (x:Prog):AN (zA x)=zA x:=rfl
@[simp] theorem c8Z (x:Prog):zw (zA x)=none:=rfl
@[simp] theorem Qq (x:Prog):PV.agg [.list false (x.enums.map yG),.list false (x.nodes.map yL)]=zA x:=rfl
@[simp] theorem c80 (h:List PObj) (x:Prog):zY h (zA x)=some (zA x):=by
 rw[MQ]; simp[-Qq]
@[simp] theorem d0H (l:List Prog):zj 2 (l.map zA)=true:=by cases l<;>simp
mutual
theorem Qr:∀x:Expr,yC (yq x)=true
 | .mk k o t v n as=>by simp only[yq,yC,yD,Qs as,bz]
theorem Qs:∀l:List Expr,yD (F9 l)=true
 | []=>rfl
 | x::xs=>by simp only[F9,yD,Qr x,Qs xs,bz]
end
@[simp] theorem c0n (x:Expr):yC (yq x)=true:=Qr x
@[simp] theorem d0I (l:List Expr):yD (l.map yq)=true:=Da c0n l
@[simp] theorem c3V (x:On):yC (eOn x)=true:=rfl
@[simp] theorem d4a (l:List On):yD (l.map eOn)=true:=Da c3V l
@[simp] theorem c0o (x:Decl):yC (yw x)=true:=by rw[JD]; simp[-Qi]
@[simp] theorem c1H (l:List Decl):yD (l.map yw)=true:=Da c0o l
@[simp] theorem c0p (x:Enum):yC (yG x)=true:=by rw[ML]; simp[-Qj]
@[simp] theorem d0J (l:List Enum):yD (l.map yG)=true:=Da c0p l
@[simp] theorem c1I (x:Eqn):yC (yZ x)=true:=by rw[Hz]; simp[-MM]
@[simp] theorem c3W (l:List Eqn):yD (l.map yZ)=true:=Da c1I l
@[simp] theorem c1J (x:Trn):yC (zF x)=true:=by rw[HA]; simp[-MN]
@[simp] theorem c3X (l:List Trn):yD (l.map zF)=true:=Da c1J l
mutual
theorem Qt:∀x:State,yC (yQ x)=true
 | .mk n l e a u w=>by simp only[yQ,yC,yD,c1H,c3W,c3X,Qu a,bz]
theorem Qv:∀l:List State,yD (Gb l)=true
 | []=>rfl
 | x::xs=>by simp only[Gb,yD,Qt x,Qv xs,bz]
theorem Qu:∀l:List (List State),yD (Ga l)=true
 | []=>rfl
 | x::xs=>by simp only[Ga,yD,yC,Qv x,Qu xs,bz]
end
@[simp] theorem b8k (x:State):yC (yQ x)=true:=Qt x
@[simp] theorem c0q (l:List State):yD (l.map yQ)=true:=Da b8k l
@[simp] theorem c0r (x:Bu):yC (zk x)=true:=by simp[Qn,-Qo]
@[simp] theorem d0K (l:List Bu):yD (l.map zk)=true:=Da c0r l
@[simp] theorem c0s (x:Node):yC (yL x)=true:=by rw[MP]; simp[-Qp]
@[simp] theorem d0L (l:List Node):yD (l.map yL)=true:=Da c0s l
@[simp] theorem c81 (x:Prog):yC (zA x)=true:=by rw[MQ]; simp[-Qq]
end Sc
end PI
