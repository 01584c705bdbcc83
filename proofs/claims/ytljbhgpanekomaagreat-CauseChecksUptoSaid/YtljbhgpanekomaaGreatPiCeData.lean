import Derived.Test.YtljbhgpanekomaaGreatPiLaw
set_option linter.unusedSimpArgs false
namespace PI
open Go(IntKind BinOp UnOp)
attribute[simp]BE FZ FY
@[simp]theorem d3K(s:Nat):B0 s []=true:=rfl
@[simp]theorem d1K(s:Nat)(e:PV)(r:List PV):B0 s (e::r)=(e.cells.length==s):=rfl
@[simp]theorem d3L(b:Bool):(PV.bool b).cells=[.bool b]:=rfl
@[simp]theorem d5n(k:IntKind)(n:Int):(PV.int k n).cells=[.int k n]:=rfl
@[simp]theorem cells_str(s:List UInt8):(PV.str s).cells=[.str s]:=rfl
@[simp]theorem d3M(o:Bool)(s:List PV):(PV.list o s).cells=[.list o s]:=rfl
@[simp]theorem d5o(b:Bool):(PV.bool b).flat=true:=rfl
@[simp]theorem d7J(k:IntKind)(n:Int):(PV.int k n).flat=true:=rfl
@[simp]theorem d7K(s:List UInt8):(PV.str s).flat=true:=rfl
@[simp]theorem d5p(o:Bool)(s:List PV):(PV.list o s).flat=true:=rfl
@[simp]theorem d7L(n o:Nat):(PV.ptr n o).flat=true:=rfl
@[simp]theorem d1L:PV.nilptr.flat=true:=rfl
@[simp]theorem d7M(n:Option Nat):(PV.map n).flat=true:=rfl
@[simp]theorem d5q(n s:Nat)(a:Bool)(l:Nat):(PV.rowp n s a l).flat=true:=rfl
@[simp]theorem d7N(op:BinOp)(c:op≠.shl)(h2:op≠.shr)(k:IntKind)(a b:Int):Hb op (.int k a) (.int k b)=La op k a b:=by cases op<;>simp_all[Hb]
@[simp]theorem d7O(op:BinOp)(a b:List UInt8):Hb op (.str a) (.str b)=Lb op a b:=by rfl
@[simp]theorem BA(i:Nat)(h:i<9223372036854775807):IntKind.i64.wrap ((i:Int)+1)=((i+1:Nat):Int):=by show(if(true&&decide (((i:Int)+1)%18446744073709551616>=9223372036854775808))=true then((i:Int)+1)%18446744073709551616-18446744073709551616 else((i:Int)+1)%18446744073709551616)=_;simp only[Bool.true_and,am];split<;>omega
theorem Fj(n:Int)(a:-9223372036854775808<=n)(h2:n<=9223372036854775807):IntKind.i64.wrap n=n:=by show(if(true&&decide (n%18446744073709551616>=9223372036854775808))=true then n%18446744073709551616-18446744073709551616 else n%18446744073709551616)=_;grind
theorem N3(l:List PV):BN l=l.all BQ:=by induction l<;>simp_all
@[simp]theorem d0B(a b:List PV):BN (a++b)=(BN a&&BN b):=by simp[N3]
@[simp]theorem d3N(l:List PV)(n:Nat)(h:BN l=true):BN (l.take n)=true:=by rw[N3,bz]at*;exactλx a=>h x (fk a)
@[simp]theorem d3O(l:List PV)(n:Nat)(h:BN l=true):BN (l.drop n)=true:=by rw[N3,bz]at*;exactλx a=>h x (eG a)
theorem GT{a:Type}{f:a->PV}(h:∀x,BQ (f x)=true)(l:List a):BN (l.map f)=true:=by simp_all[N3]
@[simp]theorem d5r(l:List (List UInt8)):BN (l.map PV.str)=true:=GT (λ_=>rfl) l
@[simp]theorem d5s(l:List (List UInt8)):B0 1 (l.map PV.str)=true:=by cases l<;>simp
@[simp]theorem d5t(l:List Int):BN (l.map (PV.int .i64))=true:=GT (λ_=>rfl) l
@[simp]theorem d5u(l:List Int):B0 1 (l.map (PV.int .i64))=true:=by cases l<;>simp
namespace Sc
abbrev Str:=List UInt8
structure On where
 name:Str
 t:Int
 tag:Int deriving Inhabited,DecidableEq
def eOn(x:On):PV:=.agg [.str x.name,.int .i64 x.t,.int .i64 x.tag]
theorem d1M(x:On):eOn x=.agg [.str x.name,.int .i64 x.t,.int .i64 x.tag]:=rfl
@[simp]theorem d5v(x:On):(eOn x).cells=[.str x.name,.int .i64 x.t,.int .i64 x.tag]:=rfl
@[simp]theorem e0C(x:On):cp (eOn x)=some (eOn x):=rfl
@[simp]theorem d9s(x:On):tkv (eOn x)=some (eOn x,false):=rfl
@[simp]theorem d0C(x:On):GB (eOn x)=some (eOn x).cells:=rfl
@[simp]theorem d9t(x:On):dem (eOn x)=eOn x:=rfl
@[simp]theorem d7P(x:On):Eh (eOn x)=eOn x:=rfl
@[simp]theorem d7Q(x:On):CY (eOn x)=none:=rfl
@[simp]theorem d7R(x:On):PV.agg [.str x.name,.int .i64 x.t,.int .i64 x.tag]=eOn x:=(d1M x).symm
@[simp]theorem d7S(h:List PObj)(x:On):Dl h (eOn x)=some (eOn x):=by rfl
@[simp]theorem d9u(l:List On):B0 3 (l.map eOn)=true:=by cases l<;>simp
@[simp]theorem e0D(x y:On):peq true [.s,.i,.i] (eOn x) (eOn y)=some (decide (x=y)):=by cases x;cases y;simp only[eOn,peq,if_true,Eq,EI,aw,bq,aa];rw[b8];simp
structure Decl where
 name:Str
 type:Int
 clock:List On deriving Inhabited,DecidableEq
def BG(x:Decl):PV:=.agg [.str x.name,.int .i64 x.type,.list false (x.clock.map eOn)]
theorem Si(x:Decl):BG x=.agg [.str x.name,.int .i64 x.type,.list false (x.clock.map eOn)]:=rfl
@[simp]theorem d1N(x:Decl):(BG x).cells=[.str x.name,.int .i64 x.type,.list false (x.clock.map eOn)]:=rfl
@[simp]theorem d7T(x:Decl):cp (BG x)=some (BG x):=rfl
@[simp]theorem d5w(x:Decl):tkv (BG x)=some (BG x,false):=rfl
@[simp]theorem c8l(x:Decl):GB (BG x)=some (BG x).cells:=rfl
@[simp]theorem d5x(x:Decl):dem (BG x)=BG x:=rfl
@[simp]theorem d3P(x:Decl):Eh (BG x)=BG x:=rfl
@[simp]theorem d3Q(x:Decl):CY (BG x)=none:=rfl
@[simp]theorem c4t(x:Decl):PV.agg [.str x.name,.int .i64 x.type,.list false (x.clock.map eOn)]=BG x:=(Si x).symm
@[simp]theorem d3R(h:List PObj)(x:Decl):Dl h (BG x)=some (BG x):=by rfl
@[simp]theorem c6a(l:List Decl):B0 3 (l.map BG)=true:=by cases l<;>simp
structure Enum where
 name:Str
 tags:List Str deriving Inhabited,DecidableEq
def BP(x:Enum):PV:=.agg [.str x.name,.list false (x.tags.map PV.str)]
theorem Wl(x:Enum):BP x=.agg [.str x.name,.list false (x.tags.map PV.str)]:=rfl
@[simp]theorem d1O(x:Enum):(BP x).cells=[.str x.name,.list false (x.tags.map PV.str)]:=rfl
@[simp]theorem d7U(x:Enum):cp (BP x)=some (BP x):=rfl
@[simp]theorem d5y(x:Enum):tkv (BP x)=some (BP x,false):=rfl
@[simp]theorem c8m(x:Enum):GB (BP x)=some (BP x).cells:=rfl
@[simp]theorem d5z(x:Enum):dem (BP x)=BP x:=rfl
@[simp]theorem d3S(x:Enum):Eh (BP x)=BP x:=rfl
@[simp]theorem d3T(x:Enum):CY (BP x)=none:=rfl
@[simp]theorem c4u(x:Enum):PV.agg [.str x.name,.list false (x.tags.map PV.str)]=BP x:=(Wl x).symm
@[simp]theorem d3U(h:List PObj)(x:Enum):Dl h (BP x)=some (BP x):=by rfl
@[simp]theorem d5A(l:List Enum):B0 2 (l.map BP)=true:=by cases l<;>simp
inductive Expr where|mk(kind:Int)(op:Int)(t:Int)(v:Int)(name:Str)(args:List Expr)
instance:Inhabited Expr:=⟨.mk 0 0 0 0 [] []⟩
def Expr.kind:Expr->Int|.mk x _ _ _ _ _=>x
@[simp]theorem Expr.kind_mk(kind:Int)(op:Int)(t:Int)(v:Int)(name:Str)(args:List Expr):(Expr.mk kind op t v name args).kind=kind:=rfl
def Expr.op:Expr->Int|.mk _ x _ _ _ _=>x
@[simp]theorem Expr.op_mk(kind:Int)(op:Int)(t:Int)(v:Int)(name:Str)(args:List Expr):(Expr.mk kind op t v name args).op=op:=rfl
def Expr.t:Expr->Int|.mk _ _ x _ _ _=>x
@[simp]theorem Expr.t_mk(kind:Int)(op:Int)(t:Int)(v:Int)(name:Str)(args:List Expr):(Expr.mk kind op t v name args).t=t:=rfl
def Expr.v:Expr->Int|.mk _ _ _ x _ _=>x
@[simp]theorem Expr.v_mk(kind:Int)(op:Int)(t:Int)(v:Int)(name:Str)(args:List Expr):(Expr.mk kind op t v name args).v=v:=rfl
def Expr.name:Expr->Str|.mk _ _ _ _ x _=>x
@[simp]theorem Expr.name_mk(kind:Int)(op:Int)(t:Int)(v:Int)(name:Str)(args:List Expr):(Expr.mk kind op t v name args).name=name:=rfl
def Expr.args:Expr->List Expr|.mk _ _ _ _ _ x=>x
@[simp]theorem Expr.args_mk(kind:Int)(op:Int)(t:Int)(v:Int)(name:Str)(args:List Expr):(Expr.mk kind op t v name args).args=args:=rfl
mutual def By:Expr->PV|.mk k o t v n as=>.agg [.int .i64 k,.int .i64 o,.int .i64 t,.int .i64 v,.str n,.list false (Kl as)]def Kl:List Expr->List PV|[]=>[]|x::xs=>By x::Kl xs end
theorem Wm:∀l:List Expr,Kl l=l.map By|[]=>rfl|x::a=>by simp[Kl,Wm a]
theorem Hh(x:Expr):By x=.agg [.int .i64 x.kind,.int .i64 x.op,.int .i64 x.t,.int .i64 x.v,.str x.name,.list false (x.args.map By)]:=by cases x;simp[By,Wm]
@[simp]theorem d1P(x:Expr):(By x).cells=[.int .i64 x.kind,.int .i64 x.op,.int .i64 x.t,.int .i64 x.v,.str x.name,.list false (x.args.map By)]:=by rw[Hh];rfl
@[simp]theorem d7V(x:Expr):cp (By x)=some (By x):=by rw[Hh];rfl
@[simp]theorem d5B(x:Expr):tkv (By x)=some (By x,false):=by rw[Hh];rfl
@[simp]theorem c8n(x:Expr):GB (By x)=some (By x).cells:=by rw[Hh];rfl
@[simp]theorem c6b(x:Expr):dem (By x)=By x:=by rw[Hh];rfl
@[simp]theorem d3V(x:Expr):Eh (By x)=By x:=by rw[Hh];rfl
@[simp]theorem d3W(x:Expr):CY (By x)=none:=by rw[Hh];rfl
@[simp]theorem c4v(x:Expr):PV.agg [.int .i64 x.kind,.int .i64 x.op,.int .i64 x.t,.int .i64 x.v,.str x.name,.list false (x.args.map By)]=By x:=(Hh x).symm
@[simp]theorem d3X(h:List PObj)(x:Expr):Dl h (By x)=some (By x):=by rw[Hh];simp[-c4v]
@[simp]theorem d5C(l:List Expr):B0 6 (l.map By)=true:=by cases l<;>simp
structure Eqn where
 left:List Str
 right:Expr deriving Inhabited
def B6(x:Eqn):PV:=.agg [.list false (x.left.map PV.str),.int .i64 x.right.kind,.int .i64 x.right.op,.int .i64 x.right.t,.int .i64 x.right.v,.str x.right.name,.list false (x.right.args.map By)]
theorem N4(x:Eqn):B6 x=.agg [.list false (x.left.map PV.str),.int .i64 x.right.kind,.int .i64 x.right.op,.int .i64 x.right.t,.int .i64 x.right.v,.str x.right.name,.list false (x.right.args.map By)]:=rfl
@[simp]theorem d3Y(x:Eqn):(B6 x).cells=[.list false (x.left.map PV.str),.int .i64 x.right.kind,.int .i64 x.right.op,.int .i64 x.right.t,.int .i64 x.right.v,.str x.right.name,.list false (x.right.args.map By)]:=rfl
@[simp]theorem d9v(x:Eqn):cp (B6 x)=some (B6 x):=rfl
@[simp]theorem d7W(x:Eqn):tkv (B6 x)=some (B6 x,false):=rfl
@[simp]theorem c8O(x:Eqn):GB (B6 x)=some (B6 x).cells:=rfl
@[simp]theorem d7X(x:Eqn):dem (B6 x)=B6 x:=rfl
@[simp]theorem d5D(x:Eqn):Eh (B6 x)=B6 x:=rfl
@[simp]theorem d5E(x:Eqn):CY (B6 x)=none:=rfl
@[simp]theorem Wn(x:Eqn):PV.agg [.list false (x.left.map PV.str),.int .i64 x.right.kind,.int .i64 x.right.op,.int .i64 x.right.t,.int .i64 x.right.v,.str x.right.name,.list false (x.right.args.map By)]=B6 x:=(N4 x).symm
@[simp]theorem d5F(h:List PObj)(x:Eqn):Dl h (B6 x)=some (B6 x):=by rfl
@[simp]theorem d7Y(l:List Eqn):B0 7 (l.map B6)=true:=by cases l<;>simp
structure Trn where
 cond:Expr
 to:Int
 resume:Bool deriving Inhabited
def CW(x:Trn):PV:=.agg [.int .i64 x.cond.kind,.int .i64 x.cond.op,.int .i64 x.cond.t,.int .i64 x.cond.v,.str x.cond.name,.list false (x.cond.args.map By),.int .i64 x.to,.bool x.resume]
theorem N5(x:Trn):CW x=.agg [.int .i64 x.cond.kind,.int .i64 x.cond.op,.int .i64 x.cond.t,.int .i64 x.cond.v,.str x.cond.name,.list false (x.cond.args.map By),.int .i64 x.to,.bool x.resume]:=rfl
@[simp]theorem d3Z(x:Trn):(CW x).cells=[.int .i64 x.cond.kind,.int .i64 x.cond.op,.int .i64 x.cond.t,.int .i64 x.cond.v,.str x.cond.name,.list false (x.cond.args.map By),.int .i64 x.to,.bool x.resume]:=rfl
@[simp]theorem d9w(x:Trn):cp (CW x)=some (CW x):=rfl
@[simp]theorem d7Z(x:Trn):tkv (CW x)=some (CW x,false):=rfl
@[simp]theorem c8P(x:Trn):GB (CW x)=some (CW x).cells:=rfl
@[simp]theorem d70(x:Trn):dem (CW x)=CW x:=rfl
@[simp]theorem d5G(x:Trn):Eh (CW x)=CW x:=rfl
@[simp]theorem d5H(x:Trn):CY (CW x)=none:=rfl
@[simp]theorem Wo(x:Trn):PV.agg [.int .i64 x.cond.kind,.int .i64 x.cond.op,.int .i64 x.cond.t,.int .i64 x.cond.v,.str x.cond.name,.list false (x.cond.args.map By),.int .i64 x.to,.bool x.resume]=CW x:=(N5 x).symm
@[simp]theorem d5I(h:List PObj)(x:Trn):Dl h (CW x)=some (CW x):=by rfl
@[simp]theorem d71(l:List Trn):B0 8 (l.map CW)=true:=by cases l<;>simp
inductive State where|mk(name:Str)(locals:List Decl)(eqs:List Eqn)(autos:List (List State))(unl:List Trn)(til:List Trn)
instance:Inhabited State:=⟨.mk [] [] [] [] [] []⟩
def State.name:State->Str|.mk x _ _ _ _ _=>x
@[simp]theorem State.name_mk(name:Str)(locals:List Decl)(eqs:List Eqn)(autos:List (List State))(unl:List Trn)(til:List Trn):(State.mk name locals eqs autos unl til).name=name:=rfl
def State.locals:State->List Decl|.mk _ x _ _ _ _=>x
@[simp]theorem State.locals_mk(name:Str)(locals:List Decl)(eqs:List Eqn)(autos:List (List State))(unl:List Trn)(til:List Trn):(State.mk name locals eqs autos unl til).locals=locals:=rfl
def State.eqs:State->List Eqn|.mk _ _ x _ _ _=>x
@[simp]theorem State.eqs_mk(name:Str)(locals:List Decl)(eqs:List Eqn)(autos:List (List State))(unl:List Trn)(til:List Trn):(State.mk name locals eqs autos unl til).eqs=eqs:=rfl
def State.autos:State->List (List State)|.mk _ _ _ x _ _=>x
@[simp]theorem State.autos_mk(name:Str)(locals:List Decl)(eqs:List Eqn)(autos:List (List State))(unl:List Trn)(til:List Trn):(State.mk name locals eqs autos unl til).autos=autos:=rfl
def State.unl:State->List Trn|.mk _ _ _ _ x _=>x
@[simp]theorem State.unl_mk(name:Str)(locals:List Decl)(eqs:List Eqn)(autos:List (List State))(unl:List Trn)(til:List Trn):(State.mk name locals eqs autos unl til).unl=unl:=rfl
def State.til:State->List Trn|.mk _ _ _ _ _ x=>x
@[simp]theorem State.til_mk(name:Str)(locals:List Decl)(eqs:List Eqn)(autos:List (List State))(unl:List Trn)(til:List Trn):(State.mk name locals eqs autos unl til).til=til:=rfl
abbrev Es:=List State
mutual def B5:State->PV|.mk n l e a u w=>.agg [.str n,.list false (l.map BG),.list false (e.map B6),.list false (Km a),.list false (u.map CW),.list false (w.map CW)]def Kn:List State->List PV|[]=>[]|x::xs=>B5 x::Kn xs def Km:List (List State)->List PV|[]=>[]|x::xs=>.agg [.list false (Kn x)]::Km xs end
def Cn(a:Es):PV:=.agg [.list false (a.map B5)]
theorem Wp:∀l:List State,Kn l=l.map B5|[]=>rfl|x::a=>by simp[Kn,Wp a]
theorem Wq:∀l:List (List State),Km l=l.map Cn|[]=>rfl|x::a=>by simp[Km,Wq a,Wp,Cn]
theorem Hi(x:State):B5 x=.agg [.str x.name,.list false (x.locals.map BG),.list false (x.eqs.map B6),.list false (x.autos.map Cn),.list false (x.unl.map CW),.list false (x.til.map CW)]:=by cases x;simp[B5,Wq]
@[simp]theorem Sj(x:State):(B5 x).cells=[.str x.name,.list false (x.locals.map BG),.list false (x.eqs.map B6),.list false (x.autos.map Cn),.list false (x.unl.map CW),.list false (x.til.map CW)]:=by rw[Hi];rfl
@[simp]theorem d5J(x:State):cp (B5 x)=some (B5 x):=by rw[Hi];rfl
@[simp]theorem d30(x:State):tkv (B5 x)=some (B5 x,false):=by rw[Hi];rfl
@[simp]theorem c6c(x:State):GB (B5 x)=some (B5 x).cells:=by rw[Hi];rfl
@[simp]theorem d31(x:State):dem (B5 x)=B5 x:=by rw[Hi];rfl
@[simp]theorem d1Q(x:State):Eh (B5 x)=B5 x:=by rw[Hi];rfl
@[simp]theorem d1R(x:State):CY (B5 x)=none:=by rw[Hi];rfl
@[simp]theorem c18(x:State):PV.agg [.str x.name,.list false (x.locals.map BG),.list false (x.eqs.map B6),.list false (x.autos.map Cn),.list false (x.unl.map CW),.list false (x.til.map CW)]=B5 x:=(Hi x).symm
@[simp]theorem d1S(h:List PObj)(x:State):Dl h (B5 x)=some (B5 x):=by rw[Hi];simp[-c18]
@[simp]theorem d32(l:List State):B0 6 (l.map B5)=true:=by cases l<;>simp
theorem c6d(x:Es):Cn x=.agg [.list false (x.map B5)]:=rfl
@[simp]theorem d1T(x:Es):(Cn x).cells=[.list false (x.map B5)]:=rfl
@[simp]theorem d72(x:Es):cp (Cn x)=some (Cn x):=rfl
@[simp]theorem d5K(x:Es):tkv (Cn x)=some (Cn x,false):=rfl
@[simp]theorem c8o(x:Es):GB (Cn x)=some (Cn x).cells:=rfl
@[simp]theorem d5L(x:Es):dem (Cn x)=Cn x:=rfl
@[simp]theorem d33(x:Es):Eh (Cn x)=Cn x:=rfl
@[simp]theorem d34(x:Es):CY (Cn x)=none:=rfl
@[simp]theorem c4w(x:Es):PV.agg [.list false (x.map B5)]=Cn x:=rfl
@[simp]theorem d35(h:List PObj)(x:Es):Dl h (Cn x)=some (Cn x):=by rfl
@[simp]theorem d5M(l:List Es):B0 1 (l.map Cn)=true:=by cases l<;>simp
structure Node where
 name:Str
 ins:List Decl
 outs:List Decl
 locals:List Decl
 eqs:List Eqn
 autos:List (List State)
 assume:List Expr
 ensure:List Expr deriving Inhabited
def BS(x:Node):PV:=.agg [.str x.name,.list false (x.ins.map BG),.list false (x.outs.map BG),.list false (x.locals.map BG),.list false (x.eqs.map B6),.list false (x.autos.map Cn),.list false (x.assume.map By),.list false (x.ensure.map By)]
theorem Wr(x:Node):BS x=.agg [.str x.name,.list false (x.ins.map BG),.list false (x.outs.map BG),.list false (x.locals.map BG),.list false (x.eqs.map B6),.list false (x.autos.map Cn),.list false (x.assume.map By),.list false (x.ensure.map By)]:=rfl
@[simp]theorem d1U(x:Node):(BS x).cells=[.str x.name,.list false (x.ins.map BG),.list false (x.outs.map BG),.list false (x.locals.map BG),.list false (x.eqs.map B6),.list false (x.autos.map Cn),.list false (x.assume.map By),.list false (x.ensure.map By)]:=rfl
@[simp]theorem d73(x:Node):cp (BS x)=some (BS x):=rfl
@[simp]theorem d5N(x:Node):tkv (BS x)=some (BS x,false):=rfl
@[simp]theorem c8p(x:Node):GB (BS x)=some (BS x).cells:=rfl
@[simp]theorem d5O(x:Node):dem (BS x)=BS x:=rfl
@[simp]theorem d36(x:Node):Eh (BS x)=BS x:=rfl
@[simp]theorem d37(x:Node):CY (BS x)=none:=rfl
@[simp]theorem c4x(x:Node):PV.agg [.str x.name,.list false (x.ins.map BG),.list false (x.outs.map BG),.list false (x.locals.map BG),.list false (x.eqs.map B6),.list false (x.autos.map Cn),.list false (x.assume.map By),.list false (x.ensure.map By)]=BS x:=rfl
@[simp]theorem d38(h:List PObj)(x:Node):Dl h (BS x)=some (BS x):=by rfl
@[simp]theorem d5P(l:List Node):B0 8 (l.map BS)=true:=by cases l<;>simp
structure Prog where
 enums:List Enum
 nodes:List Node deriving Inhabited
def Cy(x:Prog):PV:=.agg [.list false (x.enums.map BP),.list false (x.nodes.map BS)]
theorem Ws(x:Prog):Cy x=.agg [.list false (x.enums.map BP),.list false (x.nodes.map BS)]:=rfl
@[simp]theorem d1V(x:Prog):(Cy x).cells=[.list false (x.enums.map BP),.list false (x.nodes.map BS)]:=rfl
@[simp]theorem d74(x:Prog):cp (Cy x)=some (Cy x):=rfl
@[simp]theorem d5Q(x:Prog):tkv (Cy x)=some (Cy x,false):=rfl
@[simp]theorem c8q(x:Prog):GB (Cy x)=some (Cy x).cells:=rfl
@[simp]theorem d5R(x:Prog):dem (Cy x)=Cy x:=rfl
@[simp]theorem d39(x:Prog):Eh (Cy x)=Cy x:=rfl
@[simp]theorem d4a(x:Prog):CY (Cy x)=none:=rfl
@[simp]theorem c4y(x:Prog):PV.agg [.list false (x.enums.map BP),.list false (x.nodes.map BS)]=Cy x:=rfl
@[simp]theorem d4b(h:List PObj)(x:Prog):Dl h (Cy x)=some (Cy x):=by rfl
@[simp]theorem d5S(l:List Prog):B0 2 (l.map Cy)=true:=by cases l<;>simp
mutual theorem Wt:∀x:Expr,BQ (By x)=true|.mk k o t v n as=>by simp only[By,BQ,BN,Wu as,ey]theorem Wu:∀l:List Expr,BN (Kl l)=true|[]=>rfl|x::xs=>by simp_all[Kl,Wt,Wu]end
@[simp]theorem c4z(x:Expr):BQ (By x)=true:=Wt x
@[simp]theorem d5T(l:List Expr):BN (l.map By)=true:=GT c4z l
@[simp]theorem c8Q(x:On):BQ (eOn x)=true:=rfl
@[simp]theorem d9x(l:List On):BN (l.map eOn)=true:=GT c8Q l
@[simp]theorem c4A(x:Decl):BQ (BG x)=true:=by rw[Si];simp[-c4t]
@[simp]theorem c6e(l:List Decl):BN (l.map BG)=true:=GT c4A l
@[simp]theorem c4B(x:Enum):BQ (BP x)=true:=by rw[Wl];simp[-c4u]
@[simp]theorem d5U(l:List Enum):BN (l.map BP)=true:=GT c4B l
@[simp]theorem c6f(x:Eqn):BQ (B6 x)=true:=by rw[N4];simp[-Wn]
@[simp]theorem c8R(l:List Eqn):BN (l.map B6)=true:=GT c6f l
@[simp]theorem c6g(x:Trn):BQ (CW x)=true:=by rw[N5];simp[-Wo]
@[simp]theorem c8S(l:List Trn):BN (l.map CW)=true:=GT c6g l
mutual theorem Wv:∀x:State,BQ (B5 x)=true|.mk n l e a u w=>by simp only[B5,BQ,BN,c6e,c8R,c8S,Ww a,ey]theorem Wx:∀l:List State,BN (Kn l)=true|[]=>rfl|x::xs=>by simp_all[Kn,Wv,Wx]theorem Ww:∀l:List (List State),BN (Km l)=true|[]=>rfl|x::xs=>by simp_all[Km,Wx,Ww]end
@[simp]theorem c19(x:State):BQ (B5 x)=true:=Wv x
@[simp]theorem c4C(l:List State):BN (l.map B5)=true:=GT c19 l
@[simp]theorem c4D(x:Es):BQ (Cn x)=true:=by simp[c6d,-c4w]
@[simp]theorem d5V(l:List Es):BN (l.map Cn)=true:=GT c4D l
@[simp]theorem c4E(x:Node):BQ (BS x)=true:=by rw[Wr];simp[-c4x]
@[simp]theorem d5W(l:List Node):BN (l.map BS)=true:=GT c4E l
@[simp]theorem d4c(x:Prog):BQ (Cy x)=true:=by rw[Ws];simp[-c4y]
end Sc
end PI
