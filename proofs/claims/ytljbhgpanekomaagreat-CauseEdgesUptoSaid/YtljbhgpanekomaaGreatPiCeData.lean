import Derived.Test.YtljbhgpanekomaaGreatPiLaw
set_option linter.unusedSimpArgs false
namespace PI
open Go(IntKind BinOp UnOp)
attribute[simp]Au EI EX
@[simp]theorem d29(s:Nat):A9 s []=true:=rfl
@[simp]theorem d07(s:Nat)(e:PV)(r:List PV):A9 s (e::r)=(e.cells.length==s):=rfl
@[simp]theorem d3a(b:Bool):(PV.bool b).cells=[.bool b]:=rfl
@[simp]theorem d4K(k:IntKind)(n:Int):(PV.int k n).cells=[.int k n]:=rfl
@[simp]theorem cells_str(s:List UInt8):(PV.str s).cells=[.str s]:=rfl
@[simp]theorem d3b(o:Bool)(s:List PV):(PV.list o s).cells=[.list o s]:=rfl
@[simp]theorem d4L(b:Bool):(PV.bool b).flat=true:=rfl
@[simp]theorem d60(k:IntKind)(n:Int):(PV.int k n).flat=true:=rfl
@[simp]theorem d61(s:List UInt8):(PV.str s).flat=true:=rfl
@[simp]theorem d4M(o:Bool)(s:List PV):(PV.list o s).flat=true:=rfl
@[simp]theorem d62(n o:Nat):(PV.ptr n o).flat=true:=rfl
@[simp]theorem d08:PV.nilptr.flat=true:=rfl
@[simp]theorem d63(n:Option Nat):(PV.map n).flat=true:=rfl
@[simp]theorem d4N(n s:Nat)(a:Bool)(l:Nat):(PV.rowp n s a l).flat=true:=rfl
@[simp]theorem d64(op:BinOp)(h1:op≠.shl)(h2:op≠.shr)(k:IntKind)(a b:Int):FD op (.int k a) (.int k b)=JE op k a b:=by cases op<;>simp_all[FD]
@[simp]theorem d65(op:BinOp)(a b:List UInt8):FD op (.str a) (.str b)=JF op a b:=by rfl
@[simp]theorem Ap(i:Nat)(h:i<9223372036854775807):IntKind.i64.wrap ((i:Int)+1)=((i+1:Nat):Int):=by show(if(true&&decide (((i:Int)+1)%18446744073709551616>=9223372036854775808))=true then((i:Int)+1)%18446744073709551616-18446744073709551616 else((i:Int)+1)%18446744073709551616)=_;simp only[Bool.true_and,al];split<;>omega
theorem DT(n:Int)(h1:-9223372036854775808<=n)(h2:n<=9223372036854775807):IntKind.i64.wrap n=n:=by show(if(true&&decide (n%18446744073709551616>=9223372036854775808))=true then n%18446744073709551616-18446744073709551616 else n%18446744073709551616)=_;grind
theorem Mn(l:List PV):AD l=l.all AE:=by induction l<;>simp_all
@[simp]theorem c93(a b:List PV):AD (a++b)=(AD a&&AD b):=by simp[Mn]
@[simp]theorem d3c(l:List PV)(n:Nat)(h:AD l=true):AD (l.take n)=true:=by rw[Mn,bo]at*;exactλx hx=>h x (eQ hx)
@[simp]theorem d3d(l:List PV)(n:Nat)(h:AD l=true):AD (l.drop n)=true:=by rw[Mn,bo]at*;exactλx hx=>h x (eS hx)
theorem Fo{α:Type}{f:α->PV}(h:∀x,AE (f x)=true)(l:List α):AD (l.map f)=true:=by simp_all[Mn]
@[simp]theorem d4O(l:List (List UInt8)):AD (l.map PV.str)=true:=Fo (λ_=>rfl) l
@[simp]theorem d4P(l:List (List UInt8)):A9 1 (l.map PV.str)=true:=by cases l<;>simp
@[simp]theorem d4Q(l:List Int):AD (l.map (PV.int .i64))=true:=Fo (λ_=>rfl) l
@[simp]theorem d4R(l:List Int):A9 1 (l.map (PV.int .i64))=true:=by cases l<;>simp
namespace Sc
abbrev Str:=List UInt8
structure On where
 name:Str
 t:Int
 tag:Int deriving Inhabited,DecidableEq
def eOn(x:On):PV:=.agg [.str x.name,.int .i64 x.t,.int .i64 x.tag]
theorem d09(x:On):eOn x=.agg [.str x.name,.int .i64 x.t,.int .i64 x.tag]:=rfl
@[simp]theorem d4S(x:On):(eOn x).cells=[.str x.name,.int .i64 x.t,.int .i64 x.tag]:=rfl
@[simp]theorem d9N(x:On):cp (eOn x)=some (eOn x):=rfl
@[simp]theorem d8G(x:On):tkv (eOn x)=some (eOn x,false):=rfl
@[simp]theorem c94(x:On):E7 (eOn x)=some (eOn x).cells:=rfl
@[simp]theorem d8H(x:On):dem (eOn x)=eOn x:=rfl
@[simp]theorem d66(x:On):Dq (eOn x)=eOn x:=rfl
@[simp]theorem d67(x:On):BE (eOn x)=none:=rfl
@[simp]theorem d68(x:On):PV.agg [.str x.name,.int .i64 x.t,.int .i64 x.tag]=eOn x:=(d09 x).symm
@[simp]theorem d69(h:List PObj)(x:On):BZ h (eOn x)=some (eOn x):=by rfl
@[simp]theorem d8I(l:List On):A9 3 (l.map eOn)=true:=by cases l<;>simp
@[simp]theorem d9O(x y:On):peq true [.s,.i,.i] (eOn x) (eOn y)=some (decide (x=y)):=by cases x;cases y;simp only[eOn,peq,if_true,C1,Dp,av,bp,aa];rw[bq];simp
structure Decl where
 name:Str
 type:Int
 clock:List On deriving Inhabited,DecidableEq
def Av(x:Decl):PV:=.agg [.str x.name,.int .i64 x.type,.list false (x.clock.map eOn)]
theorem Qu(x:Decl):Av x=.agg [.str x.name,.int .i64 x.type,.list false (x.clock.map eOn)]:=rfl
@[simp]theorem d1a(x:Decl):(Av x).cells=[.str x.name,.int .i64 x.type,.list false (x.clock.map eOn)]:=rfl
@[simp]theorem d7a(x:Decl):cp (Av x)=some (Av x):=rfl
@[simp]theorem d4T(x:Decl):tkv (Av x)=some (Av x,false):=rfl
@[simp]theorem c7T(x:Decl):E7 (Av x)=some (Av x).cells:=rfl
@[simp]theorem d4U(x:Decl):dem (Av x)=Av x:=rfl
@[simp]theorem d3e(x:Decl):Dq (Av x)=Av x:=rfl
@[simp]theorem d3f(x:Decl):BE (Av x)=none:=rfl
@[simp]theorem c30(x:Decl):PV.agg [.str x.name,.int .i64 x.type,.list false (x.clock.map eOn)]=Av x:=(Qu x).symm
@[simp]theorem d3g(h:List PObj)(x:Decl):BZ h (Av x)=some (Av x):=by rfl
@[simp]theorem c5H(l:List Decl):A9 3 (l.map Av)=true:=by cases l<;>simp
structure Enum where
 name:Str
 tags:List Str deriving Inhabited,DecidableEq
def AB(x:Enum):PV:=.agg [.str x.name,.list false (x.tags.map PV.str)]
theorem Uq(x:Enum):AB x=.agg [.str x.name,.list false (x.tags.map PV.str)]:=rfl
@[simp]theorem d1b(x:Enum):(AB x).cells=[.str x.name,.list false (x.tags.map PV.str)]:=rfl
@[simp]theorem d7b(x:Enum):cp (AB x)=some (AB x):=rfl
@[simp]theorem d4V(x:Enum):tkv (AB x)=some (AB x,false):=rfl
@[simp]theorem c7U(x:Enum):E7 (AB x)=some (AB x).cells:=rfl
@[simp]theorem d4W(x:Enum):dem (AB x)=AB x:=rfl
@[simp]theorem d3h(x:Enum):Dq (AB x)=AB x:=rfl
@[simp]theorem d3i(x:Enum):BE (AB x)=none:=rfl
@[simp]theorem c31(x:Enum):PV.agg [.str x.name,.list false (x.tags.map PV.str)]=AB x:=(Uq x).symm
@[simp]theorem d3j(h:List PObj)(x:Enum):BZ h (AB x)=some (AB x):=by rfl
@[simp]theorem d4X(l:List Enum):A9 2 (l.map AB)=true:=by cases l<;>simp
inductive Expr where|mk(kind:Int)(op:Int)(t:Int)(v:Int)(name:Str)(args:List Expr)
instance:Inhabited Expr:=⟨.mk 0 0 0 0 [] []⟩
def Expr.kind:Expr->Int|.mk x _ _ _ _ _=>x
@[simp]theorem Expr.kind_mk(kind:Int)(op:Int)(t:Int)(v:Int)(name:Str)(args:List Expr):(Expr.mk kind op t v name args).kind=kind:=rfl
def Expr.op:Expr->Int|.mk _ x _ _ _ _=>x
@[simp]theorem Expr.op_mk(kind:Int)(op:Int)(t:Int)(v:Int)(name:Str)(args:List Expr):(Expr.mk kind op t v name args).op=op:=rfl
def Expr.t:Expr->Int|.mk _ _ x _ _ _=>x
@[simp]theorem Expr.t_mk(kind:Int)(op:Int)(t:Int)(v:Int)(name:Str)(args:List Expr):(Expr.mk kind op t v name args).t=t:=rfl
def Expr.v:Expr->Int|.mk _ _ _ x _ _=>x
@[simp]theorem Expr.v_mk(kind:Int)(op:Int)(t:Int)(v:Int)(name:Str)(args:List Expr):(Expr.mk kind op t v name args).v=v:=rfl
def Expr.name:Expr->Str|.mk _ _ _ _ x _=>x
@[simp]theorem Expr.name_mk(kind:Int)(op:Int)(t:Int)(v:Int)(name:Str)(args:List Expr):(Expr.mk kind op t v name args).name=name:=rfl
def Expr.args:Expr->List Expr|.mk _ _ _ _ _ x=>x
@[simp]theorem Expr.args_mk(kind:Int)(op:Int)(t:Int)(v:Int)(name:Str)(args:List Expr):(Expr.mk kind op t v name args).args=args:=rfl
mutual def Am:Expr->PV|.mk k o t v n as=>.agg [.int .i64 k,.int .i64 o,.int .i64 t,.int .i64 v,.str n,.list false (IV as)]def IV:List Expr->List PV|[]=>[]|x::xs=>Am x::IV xs end
theorem Ur:∀l:List Expr,IV l=l.map Am|[]=>rfl|x::xs=>by simp[IV,Ur xs]
theorem FJ(x:Expr):Am x=.agg [.int .i64 x.kind,.int .i64 x.op,.int .i64 x.t,.int .i64 x.v,.str x.name,.list false (x.args.map Am)]:=by cases x;simp[Am,Ur]
@[simp]theorem d1c(x:Expr):(Am x).cells=[.int .i64 x.kind,.int .i64 x.op,.int .i64 x.t,.int .i64 x.v,.str x.name,.list false (x.args.map Am)]:=by rw[FJ];rfl
@[simp]theorem d7c(x:Expr):cp (Am x)=some (Am x):=by rw[FJ];rfl
@[simp]theorem d4Y(x:Expr):tkv (Am x)=some (Am x,false):=by rw[FJ];rfl
@[simp]theorem c7V(x:Expr):E7 (Am x)=some (Am x).cells:=by rw[FJ];rfl
@[simp]theorem c5I(x:Expr):dem (Am x)=Am x:=by rw[FJ];rfl
@[simp]theorem d3k(x:Expr):Dq (Am x)=Am x:=by rw[FJ];rfl
@[simp]theorem d3l(x:Expr):BE (Am x)=none:=by rw[FJ];rfl
@[simp]theorem c32(x:Expr):PV.agg [.int .i64 x.kind,.int .i64 x.op,.int .i64 x.t,.int .i64 x.v,.str x.name,.list false (x.args.map Am)]=Am x:=(FJ x).symm
@[simp]theorem d3m(h:List PObj)(x:Expr):BZ h (Am x)=some (Am x):=by rw[FJ];simp[-c32]
@[simp]theorem d4Z(l:List Expr):A9 6 (l.map Am)=true:=by cases l<;>simp
structure Eqn where
 left:List Str
 right:Expr deriving Inhabited
def AP(x:Eqn):PV:=.agg [.list false (x.left.map PV.str),.int .i64 x.right.kind,.int .i64 x.right.op,.int .i64 x.right.t,.int .i64 x.right.v,.str x.right.name,.list false (x.right.args.map Am)]
theorem Mo(x:Eqn):AP x=.agg [.list false (x.left.map PV.str),.int .i64 x.right.kind,.int .i64 x.right.op,.int .i64 x.right.t,.int .i64 x.right.v,.str x.right.name,.list false (x.right.args.map Am)]:=rfl
@[simp]theorem d3n(x:Eqn):(AP x).cells=[.list false (x.left.map PV.str),.int .i64 x.right.kind,.int .i64 x.right.op,.int .i64 x.right.t,.int .i64 x.right.v,.str x.right.name,.list false (x.right.args.map Am)]:=rfl
@[simp]theorem d8J(x:Eqn):cp (AP x)=some (AP x):=rfl
@[simp]theorem d7d(x:Eqn):tkv (AP x)=some (AP x,false):=rfl
@[simp]theorem c8l(x:Eqn):E7 (AP x)=some (AP x).cells:=rfl
@[simp]theorem d7e(x:Eqn):dem (AP x)=AP x:=rfl
@[simp]theorem d40(x:Eqn):Dq (AP x)=AP x:=rfl
@[simp]theorem d41(x:Eqn):BE (AP x)=none:=rfl
@[simp]theorem Us(x:Eqn):PV.agg [.list false (x.left.map PV.str),.int .i64 x.right.kind,.int .i64 x.right.op,.int .i64 x.right.t,.int .i64 x.right.v,.str x.right.name,.list false (x.right.args.map Am)]=AP x:=(Mo x).symm
@[simp]theorem d42(h:List PObj)(x:Eqn):BZ h (AP x)=some (AP x):=by rfl
@[simp]theorem d7f(l:List Eqn):A9 7 (l.map AP)=true:=by cases l<;>simp
structure Trn where
 cond:Expr
 to:Int
 resume:Bool deriving Inhabited
def BB(x:Trn):PV:=.agg [.int .i64 x.cond.kind,.int .i64 x.cond.op,.int .i64 x.cond.t,.int .i64 x.cond.v,.str x.cond.name,.list false (x.cond.args.map Am),.int .i64 x.to,.bool x.resume]
theorem Mp(x:Trn):BB x=.agg [.int .i64 x.cond.kind,.int .i64 x.cond.op,.int .i64 x.cond.t,.int .i64 x.cond.v,.str x.cond.name,.list false (x.cond.args.map Am),.int .i64 x.to,.bool x.resume]:=rfl
@[simp]theorem d3o(x:Trn):(BB x).cells=[.int .i64 x.cond.kind,.int .i64 x.cond.op,.int .i64 x.cond.t,.int .i64 x.cond.v,.str x.cond.name,.list false (x.cond.args.map Am),.int .i64 x.to,.bool x.resume]:=rfl
@[simp]theorem d8K(x:Trn):cp (BB x)=some (BB x):=rfl
@[simp]theorem d7g(x:Trn):tkv (BB x)=some (BB x,false):=rfl
@[simp]theorem c8m(x:Trn):E7 (BB x)=some (BB x).cells:=rfl
@[simp]theorem d7h(x:Trn):dem (BB x)=BB x:=rfl
@[simp]theorem d43(x:Trn):Dq (BB x)=BB x:=rfl
@[simp]theorem d44(x:Trn):BE (BB x)=none:=rfl
@[simp]theorem Ut(x:Trn):PV.agg [.int .i64 x.cond.kind,.int .i64 x.cond.op,.int .i64 x.cond.t,.int .i64 x.cond.v,.str x.cond.name,.list false (x.cond.args.map Am),.int .i64 x.to,.bool x.resume]=BB x:=(Mp x).symm
@[simp]theorem d45(h:List PObj)(x:Trn):BZ h (BB x)=some (BB x):=by rfl
@[simp]theorem d7i(l:List Trn):A9 8 (l.map BB)=true:=by cases l<;>simp
inductive State where|mk(name:Str)(locals:List Decl)(eqs:List Eqn)(autos:List (List State))(unl:List Trn)(til:List Trn)
instance:Inhabited State:=⟨.mk [] [] [] [] [] []⟩
def State.name:State->Str|.mk x _ _ _ _ _=>x
@[simp]theorem State.name_mk(name:Str)(locals:List Decl)(eqs:List Eqn)(autos:List (List State))(unl:List Trn)(til:List Trn):(State.mk name locals eqs autos unl til).name=name:=rfl
def State.locals:State->List Decl|.mk _ x _ _ _ _=>x
@[simp]theorem State.locals_mk(name:Str)(locals:List Decl)(eqs:List Eqn)(autos:List (List State))(unl:List Trn)(til:List Trn):(State.mk name locals eqs autos unl til).locals=locals:=rfl
def State.eqs:State->List Eqn|.mk _ _ x _ _ _=>x
@[simp]theorem State.eqs_mk(name:Str)(locals:List Decl)(eqs:List Eqn)(autos:List (List State))(unl:List Trn)(til:List Trn):(State.mk name locals eqs autos unl til).eqs=eqs:=rfl
def State.autos:State->List (List State)|.mk _ _ _ x _ _=>x
@[simp]theorem State.autos_mk(name:Str)(locals:List Decl)(eqs:List Eqn)(autos:List (List State))(unl:List Trn)(til:List Trn):(State.mk name locals eqs autos unl til).autos=autos:=rfl
def State.unl:State->List Trn|.mk _ _ _ _ x _=>x
@[simp]theorem State.unl_mk(name:Str)(locals:List Decl)(eqs:List Eqn)(autos:List (List State))(unl:List Trn)(til:List Trn):(State.mk name locals eqs autos unl til).unl=unl:=rfl
def State.til:State->List Trn|.mk _ _ _ _ _ x=>x
@[simp]theorem State.til_mk(name:Str)(locals:List Decl)(eqs:List Eqn)(autos:List (List State))(unl:List Trn)(til:List Trn):(State.mk name locals eqs autos unl til).til=til:=rfl
abbrev C5:=List State
mutual def AO:State->PV|.mk n l e a u w=>.agg [.str n,.list false (l.map Av),.list false (e.map AP),.list false (IW a),.list false (u.map BB),.list false (w.map BB)]def IX:List State->List PV|[]=>[]|x::xs=>AO x::IX xs def IW:List (List State)->List PV|[]=>[]|x::xs=>.agg [.list false (IX x)]::IW xs end
def Ba(a:C5):PV:=.agg [.list false (a.map AO)]
theorem Uu:∀l:List State,IX l=l.map AO|[]=>rfl|x::xs=>by simp[IX,Uu xs]
theorem Uv:∀l:List (List State),IW l=l.map Ba|[]=>rfl|x::xs=>by simp[IW,Uv xs,Uu,Ba]
theorem FK(x:State):AO x=.agg [.str x.name,.list false (x.locals.map Av),.list false (x.eqs.map AP),.list false (x.autos.map Ba),.list false (x.unl.map BB),.list false (x.til.map BB)]:=by cases x;simp[AO,Uv]
@[simp]theorem Qv(x:State):(AO x).cells=[.str x.name,.list false (x.locals.map Av),.list false (x.eqs.map AP),.list false (x.autos.map Ba),.list false (x.unl.map BB),.list false (x.til.map BB)]:=by rw[FK];rfl
@[simp]theorem d46(x:State):cp (AO x)=some (AO x):=by rw[FK];rfl
@[simp]theorem d3p(x:State):tkv (AO x)=some (AO x,false):=by rw[FK];rfl
@[simp]theorem c5J(x:State):E7 (AO x)=some (AO x).cells:=by rw[FK];rfl
@[simp]theorem d3q(x:State):dem (AO x)=AO x:=by rw[FK];rfl
@[simp]theorem d1d(x:State):Dq (AO x)=AO x:=by rw[FK];rfl
@[simp]theorem d1e(x:State):BE (AO x)=none:=by rw[FK];rfl
@[simp]theorem c1J(x:State):PV.agg [.str x.name,.list false (x.locals.map Av),.list false (x.eqs.map AP),.list false (x.autos.map Ba),.list false (x.unl.map BB),.list false (x.til.map BB)]=AO x:=(FK x).symm
@[simp]theorem d1f(h:List PObj)(x:State):BZ h (AO x)=some (AO x):=by rw[FK];simp[-c1J]
@[simp]theorem d3r(l:List State):A9 6 (l.map AO)=true:=by cases l<;>simp
theorem c5K(x:C5):Ba x=.agg [.list false (x.map AO)]:=rfl
@[simp]theorem d1g(x:C5):(Ba x).cells=[.list false (x.map AO)]:=rfl
@[simp]theorem d7j(x:C5):cp (Ba x)=some (Ba x):=rfl
@[simp]theorem d47(x:C5):tkv (Ba x)=some (Ba x,false):=rfl
@[simp]theorem c7W(x:C5):E7 (Ba x)=some (Ba x).cells:=rfl
@[simp]theorem d48(x:C5):dem (Ba x)=Ba x:=rfl
@[simp]theorem d3s(x:C5):Dq (Ba x)=Ba x:=rfl
@[simp]theorem d3t(x:C5):BE (Ba x)=none:=rfl
@[simp]theorem c33(x:C5):PV.agg [.list false (x.map AO)]=Ba x:=rfl
@[simp]theorem d3u(h:List PObj)(x:C5):BZ h (Ba x)=some (Ba x):=by rfl
@[simp]theorem d49(l:List C5):A9 1 (l.map Ba)=true:=by cases l<;>simp
structure Node where
 name:Str
 ins:List Decl
 outs:List Decl
 locals:List Decl
 eqs:List Eqn
 autos:List (List State)
 assume:List Expr
 ensure:List Expr deriving Inhabited
def AG(x:Node):PV:=.agg [.str x.name,.list false (x.ins.map Av),.list false (x.outs.map Av),.list false (x.locals.map Av),.list false (x.eqs.map AP),.list false (x.autos.map Ba),.list false (x.assume.map Am),.list false (x.ensure.map Am)]
theorem Uw(x:Node):AG x=.agg [.str x.name,.list false (x.ins.map Av),.list false (x.outs.map Av),.list false (x.locals.map Av),.list false (x.eqs.map AP),.list false (x.autos.map Ba),.list false (x.assume.map Am),.list false (x.ensure.map Am)]:=rfl
@[simp]theorem d1h(x:Node):(AG x).cells=[.str x.name,.list false (x.ins.map Av),.list false (x.outs.map Av),.list false (x.locals.map Av),.list false (x.eqs.map AP),.list false (x.autos.map Ba),.list false (x.assume.map Am),.list false (x.ensure.map Am)]:=rfl
@[simp]theorem d7k(x:Node):cp (AG x)=some (AG x):=rfl
@[simp]theorem d5a(x:Node):tkv (AG x)=some (AG x,false):=rfl
@[simp]theorem c7X(x:Node):E7 (AG x)=some (AG x).cells:=rfl
@[simp]theorem d5b(x:Node):dem (AG x)=AG x:=rfl
@[simp]theorem d3v(x:Node):Dq (AG x)=AG x:=rfl
@[simp]theorem d3w(x:Node):BE (AG x)=none:=rfl
@[simp]theorem c34(x:Node):PV.agg [.str x.name,.list false (x.ins.map Av),.list false (x.outs.map Av),.list false (x.locals.map Av),.list false (x.eqs.map AP),.list false (x.autos.map Ba),.list false (x.assume.map Am),.list false (x.ensure.map Am)]=AG x:=rfl
@[simp]theorem d3x(h:List PObj)(x:Node):BZ h (AG x)=some (AG x):=by rfl
@[simp]theorem d5c(l:List Node):A9 8 (l.map AG)=true:=by cases l<;>simp
structure Prog where
 enums:List Enum
 nodes:List Node deriving Inhabited
def Bg(x:Prog):PV:=.agg [.list false (x.enums.map AB),.list false (x.nodes.map AG)]
theorem Ux(x:Prog):Bg x=.agg [.list false (x.enums.map AB),.list false (x.nodes.map AG)]:=rfl
@[simp]theorem d1i(x:Prog):(Bg x).cells=[.list false (x.enums.map AB),.list false (x.nodes.map AG)]:=rfl
@[simp]theorem d7l(x:Prog):cp (Bg x)=some (Bg x):=rfl
@[simp]theorem d5d(x:Prog):tkv (Bg x)=some (Bg x,false):=rfl
@[simp]theorem c7Y(x:Prog):E7 (Bg x)=some (Bg x).cells:=rfl
@[simp]theorem d5e(x:Prog):dem (Bg x)=Bg x:=rfl
@[simp]theorem d3y(x:Prog):Dq (Bg x)=Bg x:=rfl
@[simp]theorem d3z(x:Prog):BE (Bg x)=none:=rfl
@[simp]theorem c35(x:Prog):PV.agg [.list false (x.enums.map AB),.list false (x.nodes.map AG)]=Bg x:=rfl
@[simp]theorem d3A(h:List PObj)(x:Prog):BZ h (Bg x)=some (Bg x):=by rfl
@[simp]theorem d5f(l:List Prog):A9 2 (l.map Bg)=true:=by cases l<;>simp
mutual theorem Uy:∀x:Expr,AE (Am x)=true|.mk k o t v n as=>by simp only[Am,AE,AD,Uz as,Bool.and_true]theorem Uz:∀l:List Expr,AD (IV l)=true|[]=>rfl|x::xs=>by simp_all[IV,Uy,Uz]end
@[simp]theorem c36(x:Expr):AE (Am x)=true:=Uy x
@[simp]theorem d5g(l:List Expr):AD (l.map Am)=true:=Fo c36 l
@[simp]theorem c8n(x:On):AE (eOn x)=true:=rfl
@[simp]theorem d8L(l:List On):AD (l.map eOn)=true:=Fo c8n l
@[simp]theorem c37(x:Decl):AE (Av x)=true:=by rw[Qu];simp[-c30]
@[simp]theorem c5L(l:List Decl):AD (l.map Av)=true:=Fo c37 l
@[simp]theorem c38(x:Enum):AE (AB x)=true:=by rw[Uq];simp[-c31]
@[simp]theorem d5h(l:List Enum):AD (l.map AB)=true:=Fo c38 l
@[simp]theorem c5M(x:Eqn):AE (AP x)=true:=by rw[Mo];simp[-Us]
@[simp]theorem c8o(l:List Eqn):AD (l.map AP)=true:=Fo c5M l
@[simp]theorem c5N(x:Trn):AE (BB x)=true:=by rw[Mp];simp[-Ut]
@[simp]theorem c8p(l:List Trn):AD (l.map BB)=true:=Fo c5N l
mutual theorem UA:∀x:State,AE (AO x)=true|.mk n l e a u w=>by simp only[AO,AE,AD,c5L,c8o,c8p,UB a,Bool.and_true]theorem UC:∀l:List State,AD (IX l)=true|[]=>rfl|x::xs=>by simp_all[IX,UA,UC]theorem UB:∀l:List (List State),AD (IW l)=true|[]=>rfl|x::xs=>by simp_all[IW,UC,UB]end
@[simp]theorem c1K(x:State):AE (AO x)=true:=UA x
@[simp]theorem c39(l:List State):AD (l.map AO)=true:=Fo c1K l
@[simp]theorem c4a(x:C5):AE (Ba x)=true:=by simp[c5K,-c33]
@[simp]theorem d5i(l:List C5):AD (l.map Ba)=true:=Fo c4a l
@[simp]theorem c4b(x:Node):AE (AG x)=true:=by rw[Uw];simp[-c34]
@[simp]theorem d5j(l:List Node):AD (l.map AG)=true:=Fo c4b l
@[simp]theorem d3B(x:Prog):AE (Bg x)=true:=by rw[Ux];simp[-c35]
end Sc
end PI
