import Derived.Test.YtljbhgpanekomaaGreatPiFunc
import Derived.Test.YtljbhgpanekomaaGreatPiBase
import Derived.Lib.Join
import Derived.Lib.ItoaNum
import Derived.Lib.AtoiAll
import Derived.Lib.Bytealg
set_option linter.unusedSimpArgs false
set_option linter.unusedVariables false
set_option linter.unusedSectionVars false
namespace PI
open Go Go.RowKit
def IE (fn:Func) (pf:PFunc) (vs:List Tmp):Bool:=
 decide (pf.params<1000)&&decide vs.Nodup&&vs.all (λt=>decide (t<fn.ntmps))&&vs.length==pf.nv&&decide (pf.params≤pf.nv)&&vs.take pf.params==List.range pf.params
def yOf (fn:Func) (fid:FuncId) (j:Nat) (vars:List Tmp):Option YL:=(fn.body.bind λc=>(xT c)[j]?).map λx=>⟨fid,x.1,x.2.1,x.2.2,vars,fn.ntmps⟩
def LpsOK (N:Nm) (fn:Func) (fid:FuncId) (pss:List (Array Tmp)):List (Array Tmp×Nat×List Tmp)→Prop
 | []=>True
 | x::xs=>(∃j,N.yl x.2.1=yOf fn fid j x.2.2∧pss[j]? = some x.1)∧LpsOK N fn fid pss xs
theorem LpsOK.mem {N:Nm} {fn:Func} {fid:FuncId} {pss:List (Array Tmp)}:∀{l:List (Array Tmp×Nat×List Tmp)},LpsOK N fn fid pss l→∀x∈l,∃j,N.yl x.2.1=yOf fn fid j x.2.2∧pss[j]? = some x.1
 | [],_,x,hx=>by simp at hx
 | y :: l, h, x, hx => by
   rcases aC.1 hx with rfl|hx
   ·exact h.1
   ·exact LpsOK.mem h.2 x hx
section
variable {E:Env} {N:Nm} {k:Nat} {pf:PFunc} {fn:Func} {fid:FuncId}
theorem FV (vs:List Tmp) (o:Opts) (pss:List (Array Tmp)) (hf:E.P.funcs[fid]? = some fn) (h:(fn.body.map (λc=>yk (E.opt o) fn.ntmps vs c),Bk E.P o.kp vs fn.results.toList,IE fn pf vs,fn.body.map λc=>(xT c).map (·.1))=(some pf.code,some pf.results,true,some pss))
  (hn:fn.name ≠ "runtime.NumGoroutine") (dr:pss.Nodup) (hl:LpsOK N fn fid pss o.lps)
  (fQ:N.fn k=fid:=by rfl) (hy:N.yl k=none:=by rfl) (hr:pf.code.isRound=false:=by rfl) (hp:pf.prim=none:=by rfl) (hd:pf.defer=none:=by rfl):FnS E N k pf:=by
 simp only[ac] at h
 obtain⟨h1,h2,h3,h4⟩:=h
 simp only[IE,ak,aw,br,aK] at h3
 obtain⟨⟨⟨⟨⟨a0,a1⟩,a2⟩,a3⟩,a4⟩,a5⟩:=h3
 refine .inl ⟨hy,hr,a0,.inl ⟨hp,hd,fn,vs,by rw[fQ]; exact hf,hn,a1,a2,a3,a4,?_,o,h1,.inr ?_,h2⟩⟩
 ·intro i hi
  have:(vs.take pf.params)[i]? = some i:=by rw[a5]; simp[hi]
  rwa [aW,ah hi] at this
 ·intro c hc ps kb vars hm z hz tZ
  obtain⟨j,j1,j2⟩:=hl.mem _ hm
  rw[hc] at h4
  simp only[aB,aa] at h4
  subst h4
  obtain⟨i,hi⟩:=bi.1 hz
  have mo:i=j:=by
   have ii:((xT c).map (·.1))[i]? = some ps:=by simp[hi,tZ]
   obtain⟨b1,b2⟩:=ai.1 ii
   obtain⟨b3,b4⟩:=ai.1 j2
   refine cG λcZ =>?_
   rcases Nat.lt_or_gt_of_ne cZ with cS|cS
   ·exact List.pairwise_iff_getElem.1 dr i j b1 b3 cS (b2.trans b4.symm)
   ·exact List.pairwise_iff_getElem.1 dr j i b3 b1 cS (b4.trans b2.symm)
  subst mo
  rw[fQ]
  simp only at j1
  rw[j1]
  simp[yOf,hc,hi,tZ]
theorem fnS (vs:List Tmp) (o:Opts) (hf:E.P.funcs[fid]? = some fn) (h:(fn.body.map (λc=>yk (E.opt o) fn.ntmps vs c),Bk E.P o.kp vs fn.results.toList,IE fn pf vs)=(some pf.code,some pf.results,true))
  (hn:fn.name ≠ "runtime.NumGoroutine") (hl:o.lps=[]:=by rfl)
  (fQ:N.fn k=fid:=by rfl) (hy:N.yl k=none:=by rfl) (hr:pf.code.isRound=false:=by rfl) (hp:pf.prim=none:=by rfl) (hd:pf.defer=none:=by rfl):FnS E N k pf:=by
 simp only[ac] at h
 obtain⟨h1,h2,h3⟩:=h
 simp only[IE,ak,aw,br,aK] at h3
 obtain⟨⟨⟨⟨⟨a0,a1⟩,a2⟩,a3⟩,a4⟩,a5⟩:=h3
 refine .inl ⟨hy,hr,a0,.inl ⟨hp,hd,fn,vs,by rw[fQ]; exact hf,hn,a1,a2,a3,a4,?_,o,h1,.inl hl,h2⟩⟩
 intro i hi
 have:(vs.take pf.params)[i]? = some i:=by rw[a5]; simp[hi]
 rwa [aW,ah hi] at this
def RE (nt:Nat) (pf:PFunc) (vars:List Tmp) (ps:Array Tmp) (vs:List Tmp) (a b:PC):Bool:=
 a.RO&&b.RO&&decide vs.Nodup&&vs.all (λt=>decide (t<nt))&&vs.length==pf.nv&&pf.params==1+(vars.length+ps.size)&&vs.take (vars.length+ps.size)==vars++ps.toList
theorem rdS (vars vs:List Tmp) (o:Opts) (j:Nat) (ps:Array Tmp) {a b:PC} (kq:pf.code = .round a b) (hf:E.P.funcs[fid]? = some fn)
  (h:((fn.body.bind λc=>(xT c)[j]?).map λz=>(z.1,yk (E.opt o) fn.ntmps vs z.2.1,yk (E.opt o) fn.ntmps vs z.2.2))=some (ps,a,b)) (pJ:RE fn.ntmps pf vars ps vs a b=true)
  (hn:fn.name ≠ "runtime.NumGoroutine") (hy:N.yl k=yOf fn fid j vars:=by rfl) (fQ:N.fn k=fid:=by rfl) (hl:o.lps=[]:=by rfl) (hp:pf.prim=none:=by rfl) (hd:pf.defer=none:=by rfl):FnS E N k pf:=by
 simp only[ab,ae,ac] at h
 obtain⟨z,⟨c,hc,hz⟩,rfl,h2,h3⟩:=h
 simp only[RE,ak,aw,br,aK] at pJ
 obtain⟨⟨⟨⟨⟨⟨a0,a1⟩,a2⟩,a3⟩,a4⟩,a5⟩,a6⟩:=pJ
 refine .inr ⟨⟨fid,z.1,z.2.1,z.2.2,vars,fn.ntmps⟩,fn,vs,o,a,b,⟨by rw[hy]; simp[yOf,hc,hz],kq,a0,a1,hp,hd,hf,fQ,hn,by simp[hc],a2,a3,a4,a5,a6,hl,h2,h3⟩⟩
def AllFn (E:Env) (N:Nm):Nat→List (Option PFunc)→Prop
 | _,[]=>True
 | n,none::fs=>AllFn E N (n+1) fs
 | n,some f::fs=>FnS E N n f∧AllFn E N (n+1) fs
theorem AllFn.get:∀{fs:List (Option PFunc)} {n:Nat},AllFn E N n fs→∀{k:Nat} {f:PFunc},fs[k]?.join=some f→FnS E N (n+k) f
 | [],n,_,k,f,hk=>by simp at hk
 | o :: fs, n, h, 0, f, hk => by
   simp at hk; subst hk
   exact h.1
 | o :: fs, n, h, k + 1, f, hk => by
   have h':AllFn E N (n+1) fs:=by cases o with
    | none=>exact h
    | some g=>exact h.2
   have:=AllFn.get h' (k:=k) (f:=f) (by simpa using hk)
   rwa [show n+1+k=n+(k+1) by omega] at this
end
end PI
namespace PI
open Go (IntKind BinOp UnOp)
def Qx:List PV→Option (List (List UInt8))
 | []=>some []
 | .str s::r=>(Qx r).map (s::·)
 | _=>none
def d7i (args:List PV) (h:List PObj):Option (PV×List PObj):=
 match args with
 | [.list _ es,.str sep]=>(Qx es).bind λxs=>if xs.length≤140737488355328∧(Go.Lib.join xs sep).length≤140737488355328 then some (.str (Go.Lib.join xs sep),h) else none
 | _=>none
def Hb (args:List PV) (h:List PObj):Option (PV×List PObj):=
 match args with
 | [.str s,.int .u8 c]=>some (.int .i64 (Go.Lib.indexByte s c.toNat.toUInt8),h)
 | _=>none
def d7j (args:List PV) (h:List PObj):Option (PV×List PObj):=
 match args with
 | [.int .i64 n]=>if -9223372036854775808≤n∧n≤9223372036854775807 then some (.str (Go.Lib.itoa n),h) else none
 | _=>none
def c5P (args:List PV) (h:List PObj):Option (PV×List PObj):=
 match args with
 | [.ptr n 0, .str s] =>
   match h[n]? with
   | some (.bld bs)=>if bs.length+s.length≤140737488355328 then some (.tuple [.int .i64 s.length,.nilIface],h.set n (.bld (bs++s))) else none
   | _=>none
 | _=>none
def Ge:List PV→Option (List Int)
 | []=>some []
 | .int .i64 n::r=>(Ge r).map (n::·)
 | _=>none
def ins {α:Type} (le:α→α→Bool) (x:α):List α→List α
 | []=>[x]
 | y::ys=>if le x y then x::y::ys else y::ins le x ys
def zC {α:Type} (le:α→α→Bool):List α→List α
 | []=>[]
 | x::xs=>ins le x (zC le xs)
theorem Lz {α:Type} (le:α→α→Bool) (x:α):∀l,(ins le x l).Perm (x::l)
 | [] => .refl _
 | y :: ys => by
   unfold ins
   split
   ·exact .refl _
   ·exact((Lz le x ys).cons y).trans (.swap x y ys)
theorem Hm {α:Type} (le:α→α→Bool):∀l,(zC le l).Perm l
 | [] => .refl _
 | x::xs=>(Lz le x _).trans ((Hm le xs).cons x)
theorem Qy {α:Type} {le:α→α→Bool} (ht:∀a b c,le a b=true→le b c=true→le a c=true) (hn:∀a b,(le a b||le b a)=true) (x:α):∀l,l.Pairwise (λa b=>le a b=true)→(ins le x l).Pairwise (λa b=>le a b=true)
 | [],_=>by simp[ins]
 | y :: ys, h => by
   unfold ins
   split
   ·rename_i jK
    refine cn.2 ⟨λz hz =>?_,h⟩
    rcases aC.1 hz with rfl|hz
    ·exact jK
    ·exact ht _ _ _ jK ((cn.1 h).1 z hz)
   ·rename_i jK
    have vD:le y x=true:=by have:=hn x y; simp only[jK,Bool.false_or] at this; exact this
    refine cn.2 ⟨λz hz =>?_,Qy ht hn x ys (cn.1 h).2⟩
    rcases aC.1 ((Lz le x ys).mem_iff.1 hz) with rfl|hz
    ·exact vD
    ·exact(cn.1 h).1 z hz
theorem Qz {α:Type} {le:α→α→Bool} (ht:∀a b c,le a b=true→le b c=true→le a c=true) (hn:∀a b,(le a b||le b a)=true):∀l,(zC le l).Pairwise (λa b=>le a b=true)
 | [] => .nil
 | x::xs=>Qy ht hn x _ (Qz ht hn xs)
theorem QA {α:Type} {le:α→α→Bool} (ht:∀a b c,le a b=true→le b c=true→le a c=true) (hn:∀a b,(le a b||le b a)=true) (ha:∀a b,le a b=true→le b a=true→a=b) (l:List α):zC le l=l.mergeSort le:=
 List.Perm.eq_of_pairwise (λa b _ _=>ha a b) (Qz ht hn l) (List.pairwise_mergeSort ht hn l) ((Hm le l).trans (List.mergeSort_perm l le).symm)
def EA (x y:Int):Bool:=decide (x≤y)
theorem c2I (l:List Int):zC EA l=l.mergeSort λx y=>decide (x≤y):=
 QA (le:=EA) (λa b c h1 h2=>by simp[EA] at *; omega) (λa b=>by simp[EA]; omega) (λa b h1 h2=>by simp[EA] at *; omega) l
def GL (args:List PV) (h:List PObj):Option (PV×List PObj):=
 match args with
 | [.rowp n 1 false len] =>
   match h[n]? with
   | some (.cells cs)=>if len≤cs.length∧len<4611686018427387904 then(Ge (cs.take len)).map λzs=>(.tuple [],h.set n (.cells ((zC EA zs).map (.int .i64 ·)++cs.drop len))) else none
   | _=>none
 | [.list _ []]=>some (.tuple [],h)
 | _=>none
def CT:List PV→Option (List (Int×Int))
 | []=>some []
 | .int .i64 a :: .int .i64 b::r=>(CT r).map ((a,b)::·)
 | _=>none
def wV (x:Int×Int):List PV:=[.int .i64 x.1,.int .i64 x.2]
def yX (x y:Int×Int):Bool:=decide (x.1<y.1∨x.1=y.1∧x.2≤y.2)
theorem c0U (l:List (Int×Int)):zC yX l=l.mergeSort yX:=
 QA (λa b c h1 h2=>by simp[yX] at *; omega) (λa b=>by simp[yX]; omega) (λa b h1 h2=>by simp[yX] at *; exact Prod.ext (by omega) (by omega)) l
def CM (kc:Nat) (args:List PV) (h:List PObj):Option (PV×List PObj):=
 match args with
 | [.rowp n 2 true len, .func k [] []] =>
   match h[n]? with
   | some (.cells cs)=>if k=kc∧len*2≤cs.length∧len<4611686018427387904 then(CT (cs.take (len*2))).map λzs=>(.tuple [],h.set n (.cells ((zC yX zs).flatMap wV++cs.drop (len*2)))) else none
   | _=>none
 | [.list _ [],_]=>some (.tuple [],h)
 | _=>none
end PI
