import GoSem.Core.View
import GoSem.Op.String
import GoSem.Core.Utf8
set_option maxHeartbeats 1000000
namespace PI
abbrev ab.{u_1,u_2}:=@Option.map_eq_some_iff.{u_1,u_2}
abbrev ae.{u_1}:=@List.getElem?_eq_some_iff.{u_1}
abbrev af.{u_1,u_2}:=@Option.bind_eq_some_iff.{u_1,u_2}
abbrev ah.{u_1}:=@List.getElem_mem.{u_1}
abbrev ai.{u_1}:=@List.getElem?_set_ne.{u_1}
abbrev aj.{u}:=@if_pos.{u}
abbrev ak.{u}:=@if_neg.{u}
abbrev al.{u,v}:=@Prod.mk.injEq.{u,v}
abbrev am.{u}:=@Option.some.injEq.{u}
abbrev an.{u_1}:=@List.getElem?_eq_getElem.{u_1}
abbrev ao:=@Nat.le_refl
abbrev ap.{u}:=@List.length_append.{u}
abbrev aq.{u_1}:=@List.getElem?_append_left.{u_1}
abbrev ar.{u_1}:=@List.mem_of_getElem?.{u_1}
abbrev av.{u_1}:=@List.mem_append.{u_1}
abbrev aw:=@Bool.and_eq_true
abbrev ax.{u_1}:=@List.getElem?_append_right.{u_1}
abbrev ay.{u_1}:=@List.mem_cons.{u_1}
abbrev be.{u_1}:=@List.take_length.{u_1}
abbrev bg.{u_1}:=@List.getElem?_set_self.{u_1}
abbrev bh.{u}:=@List.length_cons.{u}
abbrev bi.{u,v}:=@List.map_cons.{u,v}
abbrev bj:=@Nat.le_trans
abbrev bm:=@decide_eq_true_eq
abbrev bo.{u_1,u_2,u_3}:=@Option.map_map.{u_1,u_2,u_3}
abbrev bp.{u_1}:=@List.getElem?_set.{u_1}
abbrev bq.{u_1}:=@Array.getElem?_eq_some_iff.{u_1}
abbrev br:=@Nat.lt_of_lt_of_le
abbrev bu.{u_1}:=@List.all_eq_true.{u_1}
abbrev bw.{u,v}:=@congrArg.{u,v}
abbrev bx.{u_1}:=@List.forall_mem_cons.{u_1}
abbrev bz.{u_1,u_2}:=@List.getElem?_map.{u_1,u_2}
abbrev b9.{u_1}:=@List.mem_singleton.{u_1}
abbrev cg.{u}:=@List.append_assoc.{u}
abbrev ci.{u_1,u_2}:=@List.mem_map.{u_1,u_2}
abbrev cj.{u_1,u_2}:=@Option.bind_some.{u_1,u_2}
abbrev cq.{u_1}:=@List.drop_eq_getElem_cons.{u_1}
abbrev cr.{u_1}:=@List.take_add_one.{u_1}
abbrev cu.{u_1,u_2}:=@List.map_append.{u_1,u_2}
abbrev cw.{u_1,u_2}:=@List.length_map.{u_1,u_2}
abbrev cy:=@Nat.mul_le_mul_right
abbrev cz.{u_1,u_2}:=@Option.map_some.{u_1,u_2}
abbrev c9.{u_1}:=@List.mem_iff_getElem?.{u_1}
abbrev da.{u,v}:=@List.flatMap_cons.{u,v}
abbrev db.{u_1}:=@List.mem_cons_of_mem.{u_1}
abbrev dc.{u,v}:=@List.map_nil.{u,v}
abbrev de.{u}:=@List.drop_eq_nil_of_le.{u}
abbrev dg.{u_1}:=@Array.getD_eq_getD_getElem?.{u_1}
abbrev dh:=@Nat.add_mul
abbrev di.{u}:=@List.length_set.{u}
abbrev dj.{u_1}:=@List.length_eq_zero_iff.{u_1}
abbrev dl:=@Nat.le_max_left
abbrev dm.{u_1}:=@List.take_of_length_le.{u_1}
abbrev dn.{u_1}:=@List.mem_iff_getElem.{u_1}
abbrev dq:=@Nat.le_max_right
abbrev dr:=@Bool.false_eq_true
abbrev dt.{u}:=@List.cons_append.{u}
abbrev du:=@Bool.eq_iff_iff
abbrev dx.{u}:=@List.append_nil.{u}
abbrev dy:=@Nat.zero_add
abbrev dz.{u_1}:=@List.length_take.{u_1}
abbrev ed.{u}:=@List.length_nil.{u}
abbrev ee:=@Nat.zero_le
abbrev ef.{u_1}:=@List.length_pos_iff.{u_1}
abbrev ei.{u}:=@List.length_singleton.{u}
abbrev ej.{u_1}:=@List.ext_getElem?.{u_1}
abbrev el:=@Bool.or_eq_true
abbrev em.{u_1}:=@List.getElem?_drop.{u_1}
abbrev eo:=@Nat.mod_lt
abbrev ep.{u_1}:=@Array.length_toList.{u_1}
abbrev eu.{u_1}:=@List.nodup_append.{u_1}
abbrev ev.{u_1}:=@List.set_set.{u_1}
abbrev ey.{u_1}:=@List.take_append_drop.{u_1}
abbrev ez.{u}:=@List.nil_append.{u}
abbrev eL.{u}:=@List.pairwise_cons.{u}
abbrev eM.{u_1}:=@beq_iff_eq.{u_1}
abbrev eN.{u_1}:=@Array.getElem?_setIfInBounds.{u_1}
abbrev eO.{u_1}:=@List.getElem?_take.{u_1}
abbrev eP.{u_1}:=@List.getElem?_modify.{u_1}
abbrev eQ.{u_1,u_2}:=@List.mem_flatMap.{u_1,u_2}
abbrev eS:=@not_true_eq_false
abbrev eT:=@Classical.byContradiction
abbrev eU.{u_1}:=@List.ext_getElem.{u_1}
abbrev eV:=@Nat.add_zero
abbrev eW:=@Bool.not_eq_true'
abbrev eX.{u_1}:=@Array.getElem?_append_left.{u_1}
abbrev eY.{u_1}:=@List.set_comm.{u_1}
abbrev eZ.{u_1}:=@List.nodup_cons.{u_1}
abbrev fc.{u_1}:=@List.getD_eq_getElem?_getD.{u_1}
abbrev fe.{u_1,u_2}:=@Array.getElem?_map.{u_1,u_2}
abbrev ff.{u_1}:=@Option.getD_some.{u_1}
abbrev fg.{u_1}:=@List.mem_cons_self.{u_1}
abbrev fj.{u_1}:=@List.getElem?_take_of_lt.{u_1}
abbrev fk.{u_1}:=@List.all_append.{u_1}
abbrev fl.{u_1}:=@List.getElem?_replicate.{u_1}
abbrev fm:=@List.range_eq_range'
abbrev fo.{u}:=@List.getElem?_toArray.{u}
abbrev fp:=@Bool.or_eq_true_iff
abbrev fq.{u_1,u_2}:=@Option.map_none.{u_1,u_2}
abbrev ft.{u_1}:=@List.findIdx?_eq_some_iff_getElem.{u_1}
abbrev fw:=@Nat.mul_le_mul_left
abbrev fx:=@decide_eq_false_iff_not
abbrev fy.{u,v}:=@List.flatMap_append.{u,v}
abbrev fA.{u}:=@List.mem_append_left.{u}
abbrev fB.{u}:=@List.mem_append_right.{u}
abbrev fD.{u}:=@List.size_toArray.{u}
abbrev fE.{u_1}:=@List.take_append_of_le_length.{u_1}
abbrev fF.{u_1}:=@Array.getElem?_append_right.{u_1}
abbrev fG.{u_1}:=@Array.getElem?_eq_getElem.{u_1}
open Go(IntKind BinOp UnOp)
inductive PV where|bool(b:Bool)|int(k:IntKind)(n:Int)|str(s:List UInt8)|list(own:Bool)(es:List PV)|nils|void|agg(cs:List PV)|tuple(vs:List PV)|nilptr|cptr(cs:List PV)|loc(g:Nat)(cs:List PV)|lptr(s g off:Nat)|ptr(n off:Nat)|rowp(n sz:Nat)(agg:Bool)(len:Nat)|rows(n sz:Nat)(agg:Bool)(off len:Nat)|fresh(sz:Nat)(agg:Bool)(len:Nat)(cs:List PV)|map(n:Option Nat)|func(k:Nat)(first captured:List PV)|nilfunc|iface(t:Nat)(v:PV)|nilIface|stamp(n i:Nat)|fagg(k:Nat)(cs:List PV)|dead deriving Inhabited
mutual def PV.beq:PV->PV->Bool|.bool a,.bool b=>a==b|.int k a,.int l b=>decide (k=l)&&a==b|.str a,.str b=>a==b|.list a x,.list b y=>a==b&&HZ x y|.nils,.nils=>true|.void,.void=>true|.agg x,.agg y=>HZ x y|.tuple x,.tuple y=>HZ x y|.nilptr,.nilptr=>true|.cptr x,.cptr y=>HZ x y|.loc g x,.loc h y=>g==h&&HZ x y|.lptr a b c,.lptr d e f=>a==d&&b==e&&c==f|.ptr a b,.ptr d e=>a==d&&b==e|.rowp a b c d,.rowp e f g h=>a==e&&b==f&&c==g&&d==h|.rows a b c d i,.rows e f g h j=>a==e&&b==f&&c==g&&d==h&&i==j|.fresh a b c x,.fresh d e f y=>a==d&&b==e&&c==f&&HZ x y|.map a,.map b=>a==b|.func a x y,.func b z u=>a==b&&HZ x z&&HZ y u|.nilfunc,.nilfunc=>true|.iface a x,.iface b y=>a==b&&x.beq y|.nilIface,.nilIface=>true|.stamp a b,.stamp c d=>a==c&&b==d|.fagg a x,.fagg b y=>a==b&&HZ x y|.dead,.dead=>true|_,_=>false def HZ:List PV->List PV->Bool|[],[]=>true|x::xs,y::ys=>x.beq y&&HZ xs ys|_,_=>false end
mutual theorem PV.beq_iff:∀a b:PV,a.beq b=true↔a=b|.bool _,b|.int _ _,b|.str _,b|.nils,b|.void,b|.nilptr,b|.lptr _ _ _,b|.ptr _ _,b|.rowp _ _ _ _,b|.rows _ _ _ _ _,b|.map _,b|.nilfunc,b|.nilIface,b|.stamp _ _,b|.dead,b=>by cases b<;>simp[PV.beq,and_assoc]|.list _ x,b|.agg x,b|.tuple x,b|.cptr x,b|.loc _ x,b|.fagg _ x,b=>by cases b<;>simp[PV.beq,Mz x]|.fresh _ _ _ x,b=>by cases b<;>simp[PV.beq,Mz x,and_assoc]|.func _ x y,b=>by cases b<;>simp[PV.beq,Mz x,Mz y,and_assoc]|.iface _ x,b=>by cases b<;>simp[PV.beq,PV.beq_iff x]theorem Mz:∀a b:List PV,HZ a b=true↔a=b|[],b=>by cases b<;>simp[HZ]|x::xs,b=>by cases b<;>simp[HZ,PV.beq_iff x,Mz xs]end
instance:DecidableEq PV:=λa b=>decidable_of_iff _ (PV.beq_iff a b)
def PV.cells:PV->List PV|.agg a=>a|.tuple _=>[]|v=>[v]
def PV.flat:PV->Bool|.agg _|.tuple _=>false|_=>true
inductive PObj where|cells(cs:List PV)|map(es:List (PV×PV))|gone|loop(ready:Bool)|over(id:Option Nat)deriving Inhabited,DecidableEq
inductive PX where|v(i:Nat)|l(j:Nat)|c(x:PV)deriving Inhabited
inductive EK where|b|i|s deriving DecidableEq,Inhabited
inductive HOp where|newobj(zero:List PV)|boxobj(size:Nat)(x:PX)|buildT(zero:List PV)(parts:List (Nat×Nat×PX))(off:Nat)(x:PX)|boxfresh(size:Nat)(x:PX)|load(size:Nat)(agg:Bool)(a:PX)(take:Bool)|store(size:Nat)(agg:Bool)(a x:PX)|storer(size:Nat)(agg:Bool)(a x:PX)|mkmap|lookup(ok take kagg:Bool)(ks:List EK)(zero:PV)(m x:PX)|mset(kagg:Bool)(ks:List EK)(m k v:PX)|mentry(kagg:Bool)(ks:List EK)(zero:PV)(m k:PX)|estore(m s v:PX)|mkfunc(k:Nat)(first captured:List PX)|isnil(kind:Nat)(neg:Bool)(x:PX)|nilchk(x:PX)|loadc(size:Nat)(agg:Bool)(a:PX)|barr(zero:List PV)(parts:List (Nat×Nat×PX))|idxA(len size:Nat)(agg:Bool)(x i:PX)|call(k:Nat)(args:List PX)|callx(k:Nat)(args:List PX)|callv(x:PX)(args:List PX)|rcall(k:Nat)(args:List PX)|icall(tab:List (Nat×Nat×Option (Nat×Bool)))(x:PX)(args:List PX)|bcall(k:Nat)(args:List PX)|bcallv(x:PX)(args:List PX)|happ(size:Nat)(agg:Bool)(bytes:Nat)(s x:PX)|happz(size:Nat)(agg:Bool)(bytes:Nat)(zero:List PV)(s x:PX)|clear(size:Nat)(x:PX)|mkarr(size:Nat)(agg:Bool)(bytes:Nat)(zero:List PV)(x:PX)|mkarrc(size:Nat)(agg:Bool)(bytes:Nat)(zero:List PV)(x y:PX)|hcopy(size:Nat)(d x:PX)|mkrow(size:Nat)(agg:Bool)(zero:PV)(len:Nat)(parts:List (Nat×PX))|mkfresh(size:Nat)(agg:Bool)(bytes:Nat)(zero:List PV)(x:PX)|buildA(js:List Nat)(zero:List PV)(parts:List (Nat×Nat×PX))|loadn(a:PX)deriving Inhabited
inductive POp where|h(o:HOp)|mov(x:PX)|take(x:PX)|pick(c a b:PX)|newloc(zero:List PV)|boxloc(size:Nat)(x:PX)|build(zero:List PV)(parts:List (Nat×Nat×PX))|mkslice(size:Nat)(zero:PV)(len:Nat)(parts:List (Nat×PX))|load(size:Nat)(agg:Bool)(a:PX)(take:Bool)|store(size:Nat)(agg:Bool)(a x:PX)|loadv(s size:Nat)(agg:Bool)(a:PX)|faddr(off:Nat)(x:PX)|iaddrS(size:Nat)(x i:PX)|iaddrA(len size:Nat)(x i:PX)|indexStr(x i:PX)|slice(str:Bool)(size:Nat)(x:PX)(lo hi:Option PX)|bin(op:BinOp)(x y:PX)|eq(neg agg:Bool)(ks:List EK)(x y:PX)|un(op:UnOp)(x:PX)|convInt(k:IntKind)(x:PX)|ifc(mk:Bool)(t:Nat)(x:PX)|extract(i:Nat)(x:PX)|len(str:Bool)(x:PX)|cap(x:PX)|minmax(max:Bool)(xs:List PX)|append(size bytes:Nat)(s x:PX)|pcall(k:Nat)(args:List PX)|pcallx(k:Nat)(args:List PX)(own:Option Nat)|pzcall(k:Nat)(args:List PX)|callv(x:PX)(args:List PX)|anyo(bef fr:List (List Nat))deriving Inhabited
inductive PD where|v(i:Nat)|l|n deriving Inhabited
structure PO where
 dst:PD
 op:POp
 guard:Option (PX×Bool):=none deriving Inhabited
inductive PC where|skip|region(ops:List PO)|branch(ops:List PO)(x:PX)(a b:PC)|seq(a b:PC)|block(id:Nat)(c:PC)|loop(c:PC)|exit(id:Nat)|ret|bregion(ops:List PO)|bbranch(ops:List PO)(x:PX)(a b:PC)|raise(ops:List PO)(t:Nat)(x:PX)|rangeF(x:PX)(kb:Nat)(caps:List PX)|round(a b:PC)|guarded(kd:Nat)(caps:List PX)(c:PC)deriving Inhabited
inductive PRes where|var(i:Nat)|keep(i:Nat)|cell(i size:Nat)(agg:Bool)deriving Inhabited
structure PFunc where
 params:Nat
 nv:Nat
 code:PC
 results:List PRes
 split:Bool:=false
 prim:Option (List PV->List PObj->Option (PV×List PObj)):=none
 defer:Option (List PV->List PObj->Option (List PObj)):=none deriving Inhabited
structure St where
 vars:List PV
 locs:List PV
 gen:Nat
 heap:List PObj deriving Inhabited,DecidableEq
inductive PExit where|normal|exit(id:Nat)|ret|boom(v:PV)|after(kd:Nat)(caps:List PV)(v:Option PV)deriving Inhabited
inductive Out where|val(r:PV)|boom(v:PV)deriving Inhabited
def cp:PV->Option PV|.loc ..=>none|.lptr ..=>none|.dead=>none|.fresh ..=>none|.fagg ..=>none|.list _ es=>some (.list false es)|v=>some v
def dem:PV->PV|.list _ es=>.list false es|v=>v
def raw(st:St):PX->Option PV|.v i=>st.vars[i]?|.l j=>st.locs[j]?|.c x=>some x
def rd(st:St)(x:PX):Option PV:=(raw st x).bind cp
def Gl(a:St)(x:PX)(u:PV):St:=match x with|.v i=>{a with vars:=a.vars.set i u}|.l j=>{a with locs:=a.locs.set j u}|.c _=>a
def tk(a:St)(x:PX):Option (PV×St):=match raw a x with|some (.list true es)=>some (.list true es,Gl a x (.list false es))|some v=>(cp v).map λu=>(u,a)|none=>none
def addr(st:St)(x:PX):Option PV:=match x,raw st x with|.v i,some (.loc g _)=>some (.lptr i g 0)|_,some (.lptr s g off)=>some (.lptr s g off)|_,some v=>cp v|_,none=>none
def rdInt(st:St)(x:PX):Option Int:=match rd st x with|some (.int _ n)=>some n|_=>none
def rdAll(st:St):List PX->Option (List PV)|[]=>some []|x::a=>(rd st x).bind λv=>(rdAll st a).map (v::·)
mutual def Dn:PV->Bool|.loc ..|.lptr ..|.ptr ..|.rowp ..|.rows ..|.fresh ..|.stamp ..|.fagg ..|.dead=>false|.map n=>n.isNone|.list _ es=>Dd es|.agg cs=>Dd cs|.tuple vs=>Dd vs|.cptr cs=>Dd cs|.func _ a b=>Dd a&&Dd b|.iface _ v=>Dn v|_=>true def Dd:List PV->Bool|[]=>true|v::vs=>Dn v&&Dd vs end
def Oa(c:BinOp)(k:IntKind)(a b:Int):Option PV:=match c with|.add=>some (.int k (k.wrap (a+b)))|.sub=>some (.int k (k.wrap (a-b)))|.mul=>some (.int k (k.wrap (a*b)))|.quo=>if b=0 then none else some (.int k (k.wrap (a.tdiv b)))|.rem=>if b=0 then none else some (.int k (a.tmod b))|.and=>some (.int k (k.wrap (BitVec.ofInt k.bits a&&&BitVec.ofInt k.bits b).toNat))|.or=>some (.int k (k.wrap (BitVec.ofInt k.bits a|||BitVec.ofInt k.bits b).toNat))|.xor=>some (.int k (k.wrap (BitVec.ofInt k.bits a^^^BitVec.ofInt k.bits b).toNat))|.eql=>some (.bool (a==b))|.neq=>some (.bool (a !=b))|.lss=>some (.bool (a<b))|.leq=>some (.bool (a<=b))|.gtr=>some (.bool (a>b))|.geq=>some (.bool (a>=b))|_=>none
open Go.Op(bytesLess)
def Ob(c:BinOp)(a b:List UInt8):Option PV:=match c with|.add=>if a.length+b.length<=4611686018427387904 then some (.str (a++b))else none|.eql=>some (.bool (a==b))|.neq=>some (.bool !(a==b))|.lss=>some (.bool (bytesLess a b))|.leq=>some (.bool (bytesLess a b||a==b))|.gtr=>some (.bool !(bytesLess a b||a==b))|.geq=>some (.bool !(bytesLess a b))|_=>none
def JC(d:BinOp)(x y:PV):Option PV:=match x,y with|.int k a,.int c b=>(match d with|.shl=>if b<0 then none else some (.int k (k.wrap (a*2^(min b.toNat k.bits))))|.shr=>if b<0 then none else some (.int k (a.fdiv (2^(min b.toNat k.bits))))|_=>if k=c then Oa d k a b else none)|.str a,.str b=>Ob d a b|_,_=>none
def Gh:EK->PV->PV->Option Bool|.b,.bool a,.bool b=>some (a==b)|.i,.int k a,.int c b=>if k=c then some (a==b)else none|.s,.str a,.str b=>some (a==b)|_,_,_=>none
def FN:List EK->List PV->List PV->Option Bool|[],[],[]=>some true|k::d,x::a,y::e=>(Gh k x y).bind λb=>(FN d a e).map λc=>b&&c|_,_,_=>none
def peq(d:Bool)(a:List EK)(x y:PV):Option Bool:=if d then match x,y with|.agg b,.agg c=>FN a b c|_,_=>none else match a with|[k]=>Gh k x y|_=>none
def unv(a:UnOp)(x:PV):Option PV:=match a,x with|.not,.bool b=>some (.bool !b)|.neg,.int k n=>some (.int k (k.wrap (0-n)))|_,_=>none
def DN(a:Nat):List PV->Bool|[]=>true|e::_=>e.cells.length==a
def Gx(b:List PV):List (Nat×Nat×PV)->Option (List PV)|[]=>some b|(off,size,v)::a=>if v.cells.length=size/\off+size<=b.length then Gx (b.take off++(v.cells.map dem++b.drop (off+size))) a else none
def F9:PV->PV|.agg a=>.agg (a.map dem)|v=>dem v
def IT(b:Nat)(c:List PV):List (Nat×PV)->Option (List PV)|[]=>some c|(i,v)::a=>if v.cells.length=b/\i<c.length then IT b (c.set i (F9 v)) a else none
def rdParts(st:St):List (Nat×Nat×PX)->Option (List (Nat×Nat×PV))|[]=>some []|(off,size,x)::r=>(rd st x).bind λv=>(rdParts st r).map ((off,size,v)::·)
def rdElems(st:St):List (Nat×PX)->Option (List (Nat×PV))|[]=>some []|(i,x)::r=>(rd st x).bind λv=>(rdElems st r).map ((i,v)::·)
def C8(size:Nat)(agg:Bool)(cs:List PV)(off:Nat):Option PV:=if agg then(if off+size<=cs.length then some (.agg (((cs.drop off).take size).map dem))else none)else match cs[off]? with|some v=>cp v|none=>none
def DG(size:Nat)(agg:Bool)(cs:List PV)(off:Nat)(v:PV):Option (List PV):=if agg then match v with|.agg vs=>if vs.length=size/\off+size<=cs.length then some (cs.take off++(vs++cs.drop (off+size)))else none|_=>none else if off<cs.length/\v.flat=true then some (cs.set off v)else none
def LJ(c:Bool):PV->List PV->Option PV|v,[]=>some v|.int k a,.int d b::r=>if k=d then LJ c (.int k (if c then(if b>a then b else a)else(if b<a then b else a))) r else none|_,_=>none
def bound(st:St)(x:Option PX)(Iv:Nat)(a:Nat):Option Nat:=match x with|none=>some Iv|some x=>match rdInt st x with|some n=>if 0<=n/\n<=a then some n.toNat else none|none=>none
def Vo:Option Nat->PV|none=>.nilptr|some i=>.lptr 0 0 i
def Oc:PV->Option Nat|.lptr _ _ n=>some n|_=>none
def pad:List PV:=List.replicate 20 .nilptr
theorem e3E:pad.length=20:=List.length_replicate
def EQ(a:Option Nat)(b:List PV):List PV:=.dead::(pad++Vo a::b)
abbrev CU:=Nat->List PV->List PObj->Option (PV×List PObj)
def Dz(st:St)(n:Nat):Option (List PV):=match st.heap[n]? with|some (.cells a)=>some a|_=>none
def Dc(st:St)(n:Nat)(ob:PObj):St:={st with heap:=st.heap.set n ob}
def D9(st:St)(n:Option Nat):Option (List (PV×PV)):=match n with|none=>some []|some n=>match st.heap[n]? with|some (.map es)=>some es|_=>none
def DJ(agg:Bool)(a:List EK)(k:PV):List (PV×PV)->Nat->Option (Option (Nat×PV))|[],_=>(match agg,k with|false,_=>some none|true,.agg c=>if c.length=a.length then some none else none|true,_=>none)|e::es,i=>(peq agg a k e.1).bind λb=>if b then some (some (i,e.2))else DJ agg a k es (i+1)
def Ia:PV->Bool|.list _ _=>true|_=>false
def Vp:PV->Bool|.list true _=>true|_=>false
def GT(b:St)(x:PX):Option (PV×St):=match x,raw b x with|.v i,some (.loc _ a)=>some (.cptr (a.map dem),{b with vars:=b.vars.set i (.cptr (a.map dem))})|_,_=>(rd b x).map (·,b)
def EG(st:St):List PX->Option (List PV×St)|[]=>some ([],st)|x::a=>(GT st x).bind λr=>(EG r.2 a).map λq=>(r.1::q.1,q.2)
def KU:Nat->PV->Option Bool|0,.nils=>some true|0,.void=>some false|0,.list _ (_::_)=>some false|0,.rowp ..=>some false|1,.nilptr=>some true|1,.ptr ..=>some false|1,.cptr _=>some false|2,.map n=>some n.isNone|3,.nilfunc=>some true|3,.func ..=>some false|4,.nilIface=>some true|4,.iface ..=>some false|_,_=>none
def J7:PV->Option (List PV)|.list _ es=>some es|.nils|.void=>some []|_=>none
def EY(a:Nat)(b:Bool)(c:List PV):Nat->Nat->Option (List PV)|0,_=>some []|n+1,off=>(C8 a b c off).bind λe=>(EY a b c n (off+a)).map (e::·)
def b72(st:St)(x:PX):Option (List PV):=match rd st x with|some (.rowp n sz agg len)=>if agg=true\/sz=1 then(Dz st n).bind λa=>EY sz agg a len 0 else none|some p=>J7 p|none=>none
def bytesOf:List PV->Option (List UInt8)|[]=>some []|.int .u8 n::r=>if 0<=n/\n<256 then(bytesOf r).map (UInt8.ofNat n.toNat::·)else none|_=>none
def Od:PV->Option (Nat×Nat×Nat)|.rows n sz _ off _=>some (n,sz,off)|.rowp n sz _ _=>some (n,sz,0)|_=>none
def Tf:PV->Option (Nat×Nat×Nat×Nat)|.rows n sz _ off len=>some (n,sz,off,len)|.rowp n sz _ len=>some (n,sz,0,len)|_=>none
def same(st:St)(r:PV×List PObj):Option (PV×St):=if r.2=st.heap then some (dem r.1,st)else none
def Iw(h:List PObj):PV->Option PV|.rowp n sz agg len=>if agg=true\/sz=1 then(match h[n]? with|some (.cells a)=>(EY sz agg a len 0).map (.list false)|_=>none)else none|v=>some v
def Ib(h:List PObj):List PV->Option (List PV)|[]=>some []|p::a=>(Iw h p).bind λq=>(Ib h a).map (q::·)
def HS(h:List PObj):PV->Option PV|.agg a=>(Ib h a).map .agg|v=>some v
mutual def frz(h:List PObj):PV->PV|.list o es=>.list o (Je h es)|.agg cs=>.agg (Je h cs)|.tuple vs=>.tuple (Je h vs)|.rowp n sz agg len=>(Iw h (.rowp n sz agg len)).getD (.rowp n sz agg len)|v=>v def Je(h:List PObj):List PV->List PV|[]=>[]|v::vs=>frz h v::Je h vs end
mutual def Ix:PV->List Nat|.list _ es=>MA es|.agg cs=>MA cs|.tuple vs=>MA vs|.rowp n _ _ _=>[n]|_=>[]def MA:List PV->List Nat|[]=>[]|v::vs=>Ix v++MA vs end
def Jf:List Nat->List PObj->List PObj|[],h=>h|n::ns,h=>Jf ns (h.set n .gone)
mutual def FM:PV->Bool|.bool _|.int _ _|.str _=>true|.agg cs=>Kl cs|.tuple cs=>Kl cs|_=>false def Kl:List PV->Bool|[]=>true|v::vs=>FM v&&Kl vs end
def Ic(t:Nat):List (Nat×Nat×Option (Nat×Bool))->Option (Nat×Option (Nat×Bool))|[]=>none|r::rs=>if r.1=t then some r.2 else Ic t rs
def Iy(st:St)(v:PV):Option (Nat×Bool)->Option PV|none=>some (dem v)|some (n,agg)=>match v with|.ptr m off=>(Dz st m).bind λa=>C8 n agg a off|_=>none
def GU(st:St)(a:List (Nat×Nat×Option (Nat×Bool))):Option PV->Option (Nat×PV)|some (.iface t v)=>(Ic t a).bind λr=>(Iy st v r.2).map λu=>(r.1,u)|_=>none
def adoptAll:List Nat->St->Option St|[],st=>some st|j::b,st=>match st.locs[j]? with|some (.fresh sz agg len a)=>adoptAll b {st with locs:=st.locs.set j (.rowp st.heap.length sz agg len),heap:=st.heap++[.cells a]}|_=>none
def CM(cf:CU)(o:HOp)(st:St):Option (PV×St):=match o with|.happ size agg j s x=>(match b72 st x,raw st s with|some t,some (.rowp n sz E len)=>(match st.heap[n]? with|some (.cells l)=>if sz=size/\E=agg/\len*size<=l.length/\DN size t/\len+t.length<=2147483648/\j<=16384 then some (.rowp st.heap.length size agg (len+t.length),{st with heap:=st.heap.set n .gone++[.cells (l.take (len*size)++(t.flatMap PV.cells).map dem)]})else none|_=>none)|some t,some (.list true [])=>if t=[]then some (.list true [],st)else if DN size t/\t.length<=2147483648/\j<=16384 then some (.rowp st.heap.length size agg t.length,{st with heap:=st.heap++[.cells ((t.flatMap PV.cells).map dem)]})else none|some t,some .nils=>if t=[]then some (.nils,st)else if DN size t/\t.length<=2147483648/\j<=16384 then some (.rowp st.heap.length size agg t.length,{st with heap:=st.heap++[.cells ((t.flatMap PV.cells).map dem)]})else none|_,_=>none)|.happz size agg j h s x=>(match rdInt st x,rd st s with|some n,some .nils=>if 0<n/\n<=2147483648/\j<=16384 then some (.rowp st.heap.length size agg n.toNat,{st with heap:=st.heap++[.cells (List.replicate n.toNat (h.map dem)).flatten]})else none|_,_=>none)|.clear size x=>(match(rd st x).bind Od with|some (n,sz,off)=>(match st.heap[n]? with|some (.cells l)=>if sz=size/\off*size<=l.length then some (.dead,{st with heap:=st.heap.set n (.cells (l.take (off*size)))})else none|_=>none)|_=>none)|.mkarr size agg j h x=>(match rdInt st x with|some n=>if 0<=n/\j*n<=281474976710656/\n<=9223372036854775807 then some (.rowp st.heap.length size agg n.toNat,{st with heap:=st.heap++[.cells (List.replicate n.toNat h).flatten]})else none|none=>none)|.mkarrc size agg j h x y=>(match rdInt st x,rdInt st y with|some n,some m=>if 0<=n/\n<=m/\j*m<=281474976710656/\m<=9223372036854775807 then some (.rowp st.heap.length size agg n.toNat,{st with heap:=st.heap++[.cells (List.replicate n.toNat h).flatten]})else none|_,_=>none)|.hcopy size d x=>(match(rd st d).bind Tf,(rd st x).bind J7 with|some (n,sz,off,len),some es=>(match st.heap[n]? with|some (.cells l)=>if sz=size/\off*size<=l.length/\DN size es=true/\es.length<=len then some (.int .i64 es.length,{st with heap:=st.heap.set n (.cells (l.take (off*size)++(es.flatMap PV.cells).map dem))})else none|_=>none)|_,_=>none)|.mkfresh size agg j h x=>(match rdInt st x with|some n=>if 0<=n/\j*n<=281474976710656/\n<=9223372036854775807 then some (.fresh size agg n.toNat (List.replicate n.toNat (h.map dem)).flatten,st)else none|none=>none)|.buildA C h parts=>(adoptAll C st).bind λst=>((rdParts st parts).bind (Gx h)).map λl=>(.agg l,st)|.loadn a=>(match addr st a with|some (.ptr n off)=>((Dz st n).bind fun l=>match l[off]? with|some (.list true es)=>some (.list true es,Dc st n (.cells (l.set off (.list false es))))|some .nils=>some (.list true [],st)|_=>none)|_=>none)|.mkrow size agg h len parts=>((rdElems st parts).bind (IT size (List.replicate len h))).map λes=>(.rowp st.heap.length size agg es.length,{st with heap:=st.heap++[.cells ((es.flatMap PV.cells).map dem)]})|.newobj h=>some (.ptr st.heap.length 0,{st with heap:=st.heap++[.cells h]})|.buildT h parts off x=>(match tk st x with|some (.list true es,B)=>((rdParts st parts).bind (Gx h)).bind λl=>if off<l.length then some (.fagg off (l.set off (.list false es)),B)else none|_=>((rdParts st (parts++[(off,1,x)])).bind (Gx h)).map λl=>(.agg l,st))|.boxfresh size x=>(match raw st x with|some (.fagg k l)=>(match l[k]? with|some (.list false es)=>if l.length=size then some (.ptr st.heap.length 0,{Gl st x (.agg l)with heap:=st.heap++[.cells (l.set k (.list true es))]})else none|_=>none)|_=>match rd st x with|some v=>if v.cells.length=size then some (.ptr st.heap.length 0,{st with heap:=st.heap++[.cells v.cells]})else none|none=>none)|.boxobj size x=>(match rd st x with|some v=>if v.cells.length=size then some (.ptr st.heap.length 0,{st with heap:=st.heap++[.cells v.cells]})else none|none=>none)|.load size agg a take=>(match addr st a with|some (.cptr l)=>(C8 size agg l 0).map (·,st)|some (.ptr n off)=>((Dz st n).bind λl=>match take&&!agg,l[off]? with|true,some (.list true es)=>some (.list true es,Dc st n (.cells (l.set off (.list false es))))|_,_=>(C8 size agg l off).map (·,st))|_=>none)|.store size agg a x=>(match addr st a,tk st x with|some (.ptr n off),some (v,st)=>(Dz st n).bind λl=>(DG size agg l off v).map λl=>(.dead,Dc st n (.cells l))|_,_=>none)|.storer size agg a x=>(match addr st a,rd st x with|some (.ptr n off),some v=>if Ia v then none else(Dz st n).bind λl=>(DG size agg l off v).map λl=>(.dead,Dc st n (.cells l))|_,_=>none)|.mkmap=>some (.map (some st.heap.length),{st with heap:=st.heap++[.map []]})|.lookup z take q w h m x=>(match rd st m,rd st x with|some (.map n),some k=>((D9 st n).bind λes=>(DJ q w k es 0).bind λr=>match r with|some (i,v)=>if take&&!z&&Vp v then some (v,Dc st (n.getD 0) (.map (es.modify i λe=>(e.1,dem e.2))))else some (if z then .tuple [dem v,.bool true]else dem v,st)|none=>some (if z then .tuple [h,.bool false]else h,st))|_,_=>none)|.mentry q w h m k=>(match rd st m,rd st k with|some (.map (some n)),some k=>(match st.heap[n]? with|some (.map es)=>(match DJ q w k es 0 with|some (some (i,v))=>if FM v=true then some (.tuple [v,.stamp n i],{st with heap:=st.heap.set n (.map (es.set i (k,v)))})else none|some none=>if FM h=true then some (.tuple [h,.stamp n es.length],{st with heap:=st.heap.set n (.map (es++[(k,h)]))})else none|none=>none)|_=>none)|_,_=>none)|.estore m s v=>(match rd st m,rd st s,rd st v with|some (.map (some n)),some (.stamp D i),some v=>(match st.heap[n]? with|some (.map es)=>(match es[i]? with|some e=>if n=D/\FM v=true then some (.dead,{st with heap:=st.heap.set n (.map (es.set i (e.1,v)))})else none|none=>none)|_=>none)|_,_,_=>none)|.mset q w m k v=>(match rd st m,rd st k,tk st v with|some (.map (some n)),some k,some (v,st)=>((D9 st (some n)).bind λes=>(DJ q w k es 0).map λr=>match r with|some (i,_)=>(.dead,Dc st n (.map (es.set i (k,v))))|none=>(.dead,Dc st n (.map (es++[(k,v)]))))|_,_,_=>none)|.mkfunc k u p=>(EG st u).bind λf=>(EG f.2 p).map λc=>(.func k f.1 c.1,c.2)|.isnil kind A x=>((rd st x).bind (KU kind)).map λb=>(.bool (if A then !b else b),st)|.nilchk x=>(match addr st x with|some (.ptr n o)=>some (.ptr n o,st)|some (.cptr l)=>some (.cptr l,st)|some (.lptr s g o)=>some (.lptr s g o,st)|_=>none)|.loadc size agg a=>(match rd st a with|some (.cptr l)=>(C8 size agg l 0).map (·,st)|_=>none)|.barr h parts=>((rdParts st parts).bind (Gx h)).map λl=>(.agg l,st)|.idxA len size agg x i=>(match rd st x,rdInt st i with|some (.agg l),some k=>if 0<=k/\k<len then(C8 size agg l (k.toNat*size)).map (·,st)else none|_,_=>none)|.callx k args=>(rdAll st args).bind λF=>(cf k F st.heap).map λr=>(r.1,{st with heap:=r.2})|.call k args=>(rdAll st args).bind λF=>(cf k F st.heap).map λr=>(dem r.1,{st with heap:=r.2})|.callv x args=>(match rd st x,rdAll st args with|some (.func k u p),some F=>(cf k (u++F++p) st.heap).map λr=>(dem r.1,{st with heap:=r.2})|_,_=>none)|.rcall k args=>(rdAll st args).bind λF=>(cf k F st.heap).bind (same st)|.icall tab x args=>(GU st tab (rd st x)).bind λm=>(rdAll st args).bind λF=>(cf m.1 (m.2::F) st.heap).map λr=>(dem r.1,{st with heap:=r.2})|.bcall _ _=>none|.bcallv _ _=>none
def opv(cf:CU)(o:POp)(st:St):Option (PV×St):=match o with|.h o=>CM cf o st|.mov x=>(rd st x).map (·,st)|.take x=>tk st x|.pick c a b=>(match rd st c with|some (.bool t)=>(rd st (if t then a else b)).map (·,st)|_=>none)|.newloc j=>some (.loc st.gen j,{st with gen:=st.gen+1})|.boxloc size x=>(match rd st x with|some v=>if v.cells.length=size then some (.loc st.gen (v.cells.map dem),{st with gen:=st.gen+1})else none|none=>none)|.build j parts=>((rdParts st parts).bind (Gx j)).map λf=>(.agg f,st)|.mkslice size j len parts=>((rdElems st parts).bind (IT size (List.replicate len j))).map λG=>(.list true G,st)|.load size agg a take=>(match addr st a with|some (.cptr f)=>(C8 size agg f 0).map (·,st)|some (.lptr s g off)=>(match st.vars[s]? with|some (.loc w f)=>if g=w then match take&&!agg,f[off]? with|true,some (.list true G)=>some (.list true G,{st with vars:=st.vars.set s (.loc g (f.set off (.list false G)))})|_,_=>(C8 size agg f off).map (·,st)else none|_=>none)|_=>none)|.store size agg a x=>(match addr st a,tk st x with|some (.lptr s g off),some (v,st)=>(match st.vars[s]? with|some (.loc w f)=>if g=w then(DG size agg f off v).map λf=>(.dead,{st with vars:=st.vars.set s (.loc g f)})else none|_=>none)|_,_=>none)|.loadv s size agg a=>(match addr st a with|some (.lptr C g off)=>(match st.vars[s]? with|some (.loc w f)=>if C=s/\g=w then(C8 size agg f off).map (·,st)else none|_=>none)|_=>none)|.faddr off x=>(match addr st x with|some (.cptr f)=>some (.cptr (f.drop off),st)|some (.lptr s g o)=>some (.lptr s g (o+off),st)|some (.ptr n o)=>some (.ptr n (o+off),st)|_=>none)|.iaddrS size x i=>(match rd st x,rdInt st i with|some (.list _ G),some n=>if 0<=n then match G[n.toNat]? with|some e=>if e.cells.length=size then some (.cptr e.cells,st)else none|none=>none else none|some (.rowp m sz _ len),some n=>if sz=size/\0<=n/\n<len then some (.ptr m (n.toNat*size),st)else none|some (.rows m sz _ off len),some n=>if sz=size/\0<=n/\n<len then some (.ptr m ((off+n.toNat)*size),st)else none|_,_=>none)|.iaddrA len size x i=>(match addr st x,rdInt st i with|some (.lptr s g o),some n=>if 0<=n/\n<len then some (.lptr s g (o+n.toNat*size),st)else none|some (.cptr f),some n=>if 0<=n/\n<len then some (.cptr (f.drop (n.toNat*size)),st)else none|_,_=>none)|.indexStr x i=>(match rd st x,rdInt st i with|some (.str s),some n=>if 0<=n then match s[n.toNat]? with|some b=>some (.int .u8 b.toNat,st)|none=>none else none|_,_=>none)|.slice str size x lo hi=>(match str,rd st x with|true,some (.str s)=>(bound st hi s.length s.length).bind λh=>(bound st lo 0 h).map λl=>(.str ((s.take h).drop l),st)|false,some (.list _ G)=>if DN size G then(bound st hi G.length G.length).bind λh=>(bound st lo 0 h).map λl=>(.list false ((G.take h).drop l),st)else none|false,some .nils=>(bound st hi 0 0).bind λh=>(bound st lo 0 h).map λ_=>(.nils,st)|false,some (.rowp n sz agg len)=>if sz=size then(bound st hi len len).bind λh=>(bound st lo 0 h).map λl=>(if l=0 then .rowp n sz agg h else .rows n sz agg l (h-l),st)else none|_,_=>none)|.bin op x y=>(match rd st x,rd st y with|some a,some b=>(JC op a b).map (·,st)|_,_=>none)|.eq z agg E x y=>(match rd st x,rd st y with|some a,some b=>(peq agg E a b).map λt=>(.bool (if z then !t else t),st)|_,_=>none)|.un op x=>(match rd st x with|some a=>(unv op a).map (·,st)|none=>none)|.convInt k x=>(rdInt st x).map λn=>(.int k (k.wrap n),st)|.ifc mk t x=>(match mk,rd st x with|true,some v=>some (.iface t v,st)|false,some (.iface F v)=>if F=t then some (dem v,st)else none|_,_=>none)|.extract i x=>(match rd st x with|some (.tuple vs)=>(vs[i]?.bind cp).map (·,st)|_=>none)|.len str x=>(match str,rd st x with|true,some (.str s)=>some (.int .i64 s.length,st)|false,some (.list _ G)=>some (.int .i64 G.length,st)|false,some (.rowp _ _ _ n)=>some (.int .i64 n,st)|false,some (.rows _ _ _ _ n)=>some (.int .i64 n,st)|false,some .nils=>some (.int .i64 0,st)|false,some .void=>some (.int .i64 0,st)|_,_=>none)|.cap x=>(match rd st x with|some .nils=>some (.int .i64 0,st)|_=>none)|.minmax D u=>(match rdAll st u with|some (v::vs)=>(LJ D v vs).map (·,st)|_=>none)|.append size p s x=>(match(rd st x).bind J7,tk st s with|some u,some (.list true G,st)=>if DN size G/\DN size u/\((G.length+u.length<=2147483648/\p<=16384)\/(G.length+u.length<=9223372036854775807/\(G.length+u.length)*p<=140737488355328))then some (.list true (G++u),st)else none|_,_=>none)|.pcall k args=>(match rdAll st args with|some vs=>if Dd vs then match cf k vs []with|some (r,_)=>if Dn r then some (dem r,st)else none|none=>none else none|none=>none)|.pzcall k args=>(match rdAll st args with|some vs=>if Dd vs then match cf k vs []with|some (r,B)=>if Dn (frz B r)then some (dem (frz B r),st)else none|none=>none else none|none=>none)|.pcallx k args own=>(match own with|none=>(match rdAll st args with|some vs=>if Dd vs then match cf k (EQ none vs) []with|some (r,_)=>if Dn r then some (r,st)else none|none=>none else none|none=>none)|some i=>match(args[i]?).bind (tk st),rdAll st args with|some (v,A),some vs=>if Dd (vs.set i v)/\i<vs.length then match cf k (EQ (some i) (vs.set i v)) []with|some (r,_)=>if Dn r then some (r,A)else none|none=>none else none|_,_=>none)|.callv x args=>(match rd st x,rdAll st args with|some (.func k q d),some vs=>if Dd (q++vs++d)then match cf k (q++vs++d) []with|some (r,_)=>if Dn r then some (dem r,st)else none|none=>none else none|_,_=>none)|.anyo _ _=>none
def put(a:St)(j:Nat)(d:PD)(v:PV):St:=match d with|.v i=>{a with vars:=a.vars.set i v}|.l=>{a with locs:=a.locs.set j v}|.n=>a
def Dj(d:CU)(j:Nat)(o:PO)(c:St):Option St:=match o.guard with|none=>(opv d o.op c).map λr=>put r.2 j o.dst r.1|some (x,a)=>match rd c x with|some (.bool b)=>if b=a then(opv d o.op c).map λr=>put r.2 j o.dst r.1 else some (put c j o.dst (.tuple []))|some (.tuple [])=>some (put c j o.dst (.tuple []))|_=>none
def Fu(a:CU):Nat->List PO->St->Option St|_,[],st=>some st|j,o::os,st=>(Dj a j o st).bind (Fu a (j+1) os)
def Ha(n:Nat)(a:St):St:={a with locs:=List.replicate n .dead}
def Id(b:CU)(a:List PO)(c:St):Option St:=Fu b 0 a (Ha a.length c)
def HY(b:CU)(a:List PO)(i:Nat)(c:St):Option St:=match a[i]? with|some p=>Dj b i p c|none=>none
def IU:List (Option St)->Option St|[]=>none|[r]=>r|r::s::rs=>if IU (s::rs)=r then r else none
theorem N8:∀{l:List (Option St)}{r:St},IU l=some r->∀x∈l,x=some r|[],_,h,_,hx=>by simp at hx|[y],r,h,x,hx=>by simp[IU]at h;simp at hx;rw[hx,h]|y::z::l,r,h,x,hx=>by simp only[IU]at h;split at h;(next a=>rcases ay.1 hx with rfl|hx;{exact h};exact N8 (a.trans h) x hx);cases h
def JD(b:List (List Nat))(a:List Nat)(k:Nat):Bool:=(b.getD k []).all λj=>!a.contains j
def Oe(a:List (List Nat))(P:List Nat):Nat->Nat->Bool|0,_=>false|n+1,x=>(a.getD x []).any λy=>P.contains y||Oe a P n y
def d9B(c:List (List Nat))(a:List Nat):Nat->List Nat->List Nat|0,P=>P|n+1,P=>d9B c a n (a.filter λx=>P.contains x||P.any λb=>(c.getD b []).contains x)
def okP(c d:List (List Nat))(a P:List Nat):Bool:=P.all λb=>(d.getD b []).all λx=>!a.contains x||P.contains x||Oe c P a.length x
def Q0(e f:List (List Nat))(d c:List Nat):List Nat:=match(c.map λr=>d9B f c c.length [r]).filter (okP e f d)with|[]=>c|P::Ps=>Ps.foldl (λa b=>if b.length<a.length then b else a) P
def QY(c e:List (List Nat))(a d P:List Nat):Bool:=!P.isEmpty&&P.all (λb=>d.contains b)&&okP c e a P
def JB(b c:List (List Nat))(a:List Nat):List Nat:=if QY b c a (a.filter (JD b a)) (Q0 b c a (a.filter (JD b a)))then Q0 b c a (a.filter (JD b a))else a.filter (JD b a)
def swN(a b g:Nat):Nat:=if g=a then b else if g=b then a else g
def swV(a b:Nat):PV->PV|.loc g c=>.loc (swN a b g) c|.lptr s g off=>.lptr s (swN a b g) off|v=>v
def swS(a b:Nat)(c:St):St:={c with vars:=c.vars.map (swV a b),locs:=c.locs.map (swV a b)}
def Q1(p:Nat×St)(i:Nat):Nat×St:=match p.2.vars[i]? with|some (.loc g _)=>if p.1<=g then(p.1+1,swS g p.1 p.2)else p|_=>p
def e3F(b:Nat)(a:St):St:=((List.range a.vars.length).foldl Q1 (b,a)).2
def d9C(d:PD)(a:Nat):St->St:=match d with|.l=>e3F a|_=>id
def e5k(a:List PO):Bool:=decide (2<=(a.filter λp=>match p.op with|.newloc _|.boxloc _ _=>true|_=>false).length)
def Ft(b:St->St)(e:CU)(d:List PO)(c f:List (List Nat)):Nat->List Nat->St->Option St|_,[],st=>some (b st)|0,_::_,_=>none|n+1,i::a,st=>IU ((JB c f (i::a)).map λk=>(HY e d k st).bind (Ft b e d c f n ((i::a).erase k)))
def LK:List PO->Bool|⟨_,.anyo _ _,_⟩::_=>true|_=>false
def LL(e:CU)(a:List PO)(c:St):Option St:=match a with|⟨d,.anyo b fr,_⟩::pos=>Ft (d9C d c.gen) e pos b fr pos.length (List.range pos.length) (Ha pos.length c)|_=>none
def EF(b:CU)(a:List PO)(c:St):Option St:=if LK a then LL b a c else Id b a c
def D1(a:St):St:={a with locs:=[]}
def Hb(b:St):PRes->Option PV|.var i=>(b.vars[i]?.bind fun v=>match v with|.list true es=>some (.list true es)|.rowp n sz agg len=>if agg=true\/sz=1 then(Dz b n).bind λa=>(EY sz agg a len 0).map (.list false)else none|.nils=>some (.list false [])|v=>cp v)|.keep i=>b.vars[i]?.bind cp|.cell i size agg=>match b.vars[i]? with|some (.loc _ a)=>(C8 size agg a 0).bind (HS b.heap)|some (.ptr n 0)=>(Dz b n).bind λa=>C8 size agg a 0|_=>none
def Hv(a:St):List PRes->Option (List PV)|[]=>some []|r::rs=>(Hb a r).bind λv=>(Hv a rs).map (v::·)
def Eq(a:St)(b:List PRes):Option PV:=(Hv a b).map λvs=>match vs with|[v]=>v|vs=>.tuple (vs.map dem)
def Gy:PV->Option Nat|.rowp n _ _ _=>some n|_=>none
def Vq(a:List PV)(i:Nat):Option Nat:=a[i]?.bind Gy
def JE:List PV->List Nat|[]=>[]|p::a=>(Gy p).toList++JE a
def Jg(b:List PV):PRes->List Nat|.var i=>(Vq b i).toList|.keep _=>[]|.cell i _ _=>match b[i]? with|some (.loc _ a)=>JE a|_=>[]
def DE(a:List PV):List PRes->List PObj->List PObj|[],h=>h|r::rs,h=>DE a rs (Jf (Jg a r) h)
def Q2:Option (Out×List PObj)->Option (PV×List PObj)|some (.val r,h)=>some (r,h)|_=>none
def JF(e:PC->St->Option (PExit×St))(f:Nat)(a b:PC)(args:List PV)(h:List PObj):Option (Out×List PObj):=match args with|.ptr n 0::az=>(match h[n]?,e a {vars:=az.map dem++List.replicate (f-az.length) .dead,locs:=[],gen:=0,heap:=h}with|some (.loop true),some (.normal,d)=>(match d.heap[n]?,e b {d with heap:=d.heap.set n (.loop false)}with|some (.loop true),some (.normal,c)=>(match c.heap[n]? with|some (.loop false)=>some (.val (.bool true),c.heap.set n (.loop true))|_=>none)|some (.loop true),some (.boom v,c)=>some (.boom v,c.heap)|some (.loop true),some (.exit id,c)=>(match c.heap[n]? with|some (.loop false)=>some (.val (.bool false),c.heap.set n (.over (some id)))|_=>none)|some (.loop true),some (.ret,c)=>(match c.heap[n]? with|some (.loop false)=>some (.val (.bool false),c.heap.set n (.over none))|_=>none)|_,_=>none)|_,_=>none)|_=>none
def PC.NR:PC->Bool|.rangeF ..=>false|.seq a b|.branch _ _ a b|.bbranch _ _ a b|.round a b=>a.NR&&b.NR|.block _ c|.loop c|.guarded _ _ c=>c.NR|_=>true
def PC.RO:PC->Bool|.rangeF ..|.guarded ..=>false|.seq a b|.branch _ _ a b|.bbranch _ _ a b|.round a b=>a.RO&&b.RO|.block _ c|.loop c=>c.RO|_=>true
def PC.isRound:PC->Bool|.round _ _=>true|_=>false
def Iz(L:Nat->Option PFunc)(k:Nat):Bool:=match L k with|some f=>!f.code.isRound|none=>false
def Gv(b:Option Nat)(a:List PV):List PV:=match b with|none=>a.map dem|some i=>(a.map dem).set i (a.getD i .dead)
def FZ(k:PC->St->Option (PExit×St))(j:Nat->List PV->List PObj->Option (List PObj))(f:PFunc)(i:List PV)(h:List PObj):Option (Out×List PObj):=match f.code with|.round a b=>JF k f.nv a b i h|c=>match k c {vars:=i.map dem++List.replicate (f.nv-f.params) .dead,locs:=[],gen:=0,heap:=h}with|some (.normal,st)=>(Eq st f.results).map λr=>(.val r,DE st.vars f.results st.heap)|some (.ret,st)=>(Eq st f.results).map λr=>(.val r,DE st.vars f.results st.heap)|some (.boom v,st)=>some (.boom v,st.heap)|some (.after g d v,st)=>if c.NR=false then none else(j g (v.getD .nilIface::d) st.heap).bind λe=>(Eq {st with heap:=e} f.results).map λr=>(.val r,DE st.vars f.results e)|_=>none
def Fe(c:PC->St->Option (PExit×St))(b:Nat->List PV->List PObj->Option (List PObj))(f:PFunc)(a:List PV)(h:List PObj):Option (PV×List PObj):=if f.code.isRound then none else Q2 (FZ c b f a h)
def Fw(c:PC->St->Option (PExit×St))(f:PFunc)(b:Option Nat)(a:List PV)(h:List PObj):Option (PV×List PObj):=if f.code.isRound then none else match c f.code {vars:=Gv b a++List.replicate (f.nv-f.params) .dead,locs:=[],gen:=0,heap:=h}with|some (.normal,st)=>(Eq st f.results).map λr=>(r,DE st.vars f.results st.heap)|some (.ret,st)=>(Eq st f.results).map λr=>(r,DE st.vars f.results st.heap)|_=>none
def KV(r a:Option (PV×List PObj)):Option (PV×List PObj):=if r=a then r else none
def vague:PV->Bool|.list _ []=>true|_=>false
def Er(L:Nat->Option PFunc)(k:Nat)(a:List PV)(h:List PObj):Option (List PObj):=match L k with|some f=>(match f.defer with|some g=>g a h|none=>none)|none=>none
def Ie(b:PC->St->Option (PExit×St))(f:PFunc):List PV->List PObj->Option (PV×List PObj)|.dead::a,h=>(match a.drop pad.length with|o::args=>if args.length=f.params/\f.prim=none then if f.split&&vague (args.headD .dead)then KV (Fw b f (Oc o) (.nils::args.tail) h) (Fw b f (Oc o) (.void::args.tail) h)else Fw b f (Oc o) args h else none|[]=>none)|_,_=>none
def DT(b:PC->St->Option (PExit×St))(L:Nat->Option PFunc):CU:=λk a h=>match L k with|none=>none|some f=>if a.length=f.params then match f.prim with|some g=>(g (a.map dem) h).map λr=>(dem r.1,r.2)|none=>if f.split&&vague (a.headD .dead)then KV (Fe b (Er L) f (.nils::a.tail) h) (Fe b (Er L) f (.void::a.tail) h)else Fe b (Er L) f a h else Ie b f a h
abbrev EA:=Nat->List PV->List PObj->Option (Out×List PObj)
def Ek(b:PC->St->Option (PExit×St))(L:Nat->Option PFunc):EA:=λk a h=>match L k with|none=>none|some f=>if a.length=f.params/\f.split=false then match f.prim with|some g=>(g (a.map dem) h).map λr=>(.val (dem r.1),r.2)|none=>FZ b (Er L) f a h else none
def Ff(f:CU)(e:EA)(j:Nat)(o:PO)(d:St):Option (Option PV×St):=match o.op,o.guard with|.h (.bcall k args),none=>(match rdAll d args with|some vs=>(match e k vs d.heap with|some (.val r,c)=>some (none,put {d with heap:=c} j o.dst (dem r))|some (.boom v,c)=>some (some v,{d with heap:=c})|none=>none)|none=>none)|.h (.bcallv x args),none=>(match rd d x,rdAll d args with|some (.func k b a),some vs=>(match e k (b++vs++a) d.heap with|some (.val r,c)=>some (none,put {d with heap:=c} j o.dst (dem r))|some (.boom v,c)=>some (some v,{d with heap:=c})|none=>none)|_,_=>none)|.h (.bcall _ _),_|.h (.bcallv _ _),_=>none|_,_=>(Dj f j o d).map λd=>(none,d)
def El(a:CU)(b:EA):Nat->List PO->St->Option (Option PV×St)|_,[],st=>some (none,st)|j,o::os,st=>match Ff a b j o st with|some (none,st)=>El a b (j+1) os st|r=>r
def CV(L:Nat->Option PFunc):Nat->PC->St->Option (PExit×St)|0,_,_=>none|n+1,c,st=>match c with|.skip=>some (.normal,st)|.region d=>(EF (DT (CV L n) L) d st).map λst=>(.normal,D1 st)|.branch d x a b=>(match EF (DT (CV L n) L) d st with|some st=>(match rd st x with|some (.bool t)=>CV L n (if t then a else b) (D1 st)|_=>none)|none=>none)|.seq a b=>(match CV L n a st with|some (.normal,st)=>CV L n b st|some (.after _ _ _,_)=>none|r=>r)|.block id c=>(match CV L n c st with|some (.exit i,st)=>if i=id then some (.normal,st)else some (.exit i,st)|some (.after _ _ _,_)=>none|r=>r)|.loop c=>(match CV L n c st with|some (.normal,st)=>CV L n (.loop c) st|some (.after _ _ _,_)=>none|r=>r)|.exit id=>some (.exit id,st)|.ret=>some (.ret,st)|.bregion d=>(match El (DT (CV L n) L) (Ek (CV L n) L) 0 d (Ha d.length st)with|some (none,st)=>some (.normal,D1 st)|some (some v,st)=>some (.boom v,D1 st)|none=>none)|.bbranch d x a b=>(match El (DT (CV L n) L) (Ek (CV L n) L) 0 d (Ha d.length st)with|some (none,st)=>(match rd st x with|some (.bool t)=>CV L n (if t then a else b) (D1 st)|_=>none)|some (some v,st)=>some (.boom v,D1 st)|none=>none)|.raise d t x=>(match Id (DT (CV L n) L) d st with|some st=>(rd st x).map λp=>(.boom (.iface t p),D1 st)|none=>none)|.rangeF x m f=>(match rd st x,rdAll st f with|some (.func k g e),some j=>(if Iz L k=false then none else match Ek (CV L n) L k (g++.func m (.ptr st.heap.length 0::j) []::e) (st.heap++[.loop true])with|some (.val _,h)=>(match h[st.heap.length]? with|some (.loop true)=>some (.normal,{st with heap:=h.set st.heap.length .gone})|some (.over (some id))=>some (.exit id,{st with heap:=h.set st.heap.length .gone})|some (.over none)=>some (.ret,{st with heap:=h.set st.heap.length .gone})|_=>none)|some (.boom v,h)=>some (.boom v,{st with heap:=h})|none=>none)|_,_=>none)|.round _ _=>none|.guarded l f c=>if c.NR=false then none else match rdAll st f with|some j=>(match CV L n c st with|some (.normal,st)=>some (.after l j none,st)|some (.ret,st)=>some (.after l j none,st)|some (.boom v,st)=>some (.after l j (some v),st)|_=>none)|none=>none
def call(L:Nat->Option PFunc)(n:Nat):CU:=DT (CV L n) L
abbrev I6(n:Int):PV:=.int .i64 n
abbrev Lf(l:List PV):PV:=.list false l
abbrev Lt(l:List PV):PV:=.list true l
abbrev HsT:=List PObj
abbrev VsT:=List PV
abbrev NsT:=List Nat
abbrev QsT:=PExit->St->Prop
abbrev LsT:=Nat->Option PFunc
end PI
