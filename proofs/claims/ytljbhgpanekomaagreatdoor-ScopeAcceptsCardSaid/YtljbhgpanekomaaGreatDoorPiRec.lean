import Derived.Test.YtljbhgpanekomaaGreatDoorPiFunc
import Derived.Test.YtljbhgpanekomaaGreatDoorPiWp
import Derived.RecoverIn
set_option linter.unusedSimpArgs false
set_option linter.unusedVariables false
set_option linter.unusedSectionVars false
namespace PI
open Go Go.RowKit
def Aq (t:Nat) (args:List PV) (h:List PObj):Option (List PObj):=
 match args with
 | [.nilIface,.ptr _ 0,.ptr _ 0]=>some h
 | [.iface t' (.agg [.int k1 a, .int k2 b, .int k3 c]), .ptr n 0, .ptr m 0] =>
   if t'=t∧n≠m then
    match h[n]?,h[m]? with
    | some (.cells [_,_]),some (.cells [_])=>some ((h.set n (.cells [.int k1 a,.int k2 b])).set m (.cells [.int k3 c]))
    | _,_=>none
   else none
 | _=>none
def En (o:Oper):Bool:=
 match o.op with
 | .move _ | .assign _ | .extract _ _ | .alloc _ | .store _ _ _ | .load _ _ | .fieldAddr _ _ _=>true
 | _=>false
section
variable {P:Program} {w:World}
theorem b9S {o:Oper} (h:En o=true) {ρ:Operand→Value}:(∀r w',(execOp ρ o).run P w = .ok r w'→(∃v,r = .value v)∨r = .skip)∧True:=by
 refine⟨?_,trivial⟩
 intro r w' hr
 have val:∀(s:Sem Value),(do pure (.value (← s)):Sem Next).run P w = .ok r w'→∃v,r = .value v:=by
  intro s hs
  rw[Sem.run_bind] at hs
  cases hx:s.run P w with
  | ok v w1=>rw[hx] at hs; simp only[Result.andThen_ok,Sem.run_pure,Result.ok.injEq] at hs; exact⟨v,hs.1.symm⟩
  | halt x w1=>rw[hx] at hs; simp[Result.andThen] at hs
 have unit:∀(s:Sem Unit),(do s; pure .skip:Sem Next).run P w = .ok r w'→r = .skip:=by
  intro s hs
  rw[Sem.run_bind] at hs
  cases hx:s.run P w with
  | ok v w1=>rw[hx] at hs; simp only[Result.andThen_ok,Sem.run_pure,Result.ok.injEq] at hs; exact hs.1.symm
  | halt x w1=>rw[hx] at hs; simp[Result.andThen] at hs
 unfold En at h
 unfold execOp at hr
 cases cL:o.op<;>rw[cL] at h hr<;>simp only[reduceCtorEq,aH] at h
 all_goals first
  | exact .inl (val _ hr)
  | exact .inr (unit _ hr)
  | (simp only[Sem.run_pure,Result.ok.injEq] at hr; exact .inl ⟨_,hr.1.symm⟩)
theorem Eo {ops:Array Oper} {Q:Exit→Act→List Frame→World→Prop} {cs:List Frame}:∀{l:List Nat} {a:Act} {w:World},(∀i∈l,∀o,ops[i]? = some o→En o=true)→¬LetsOut (λe a w=>Q e a cs w) →
  wpOps P ops (λe a w=>Q e a cs w) l a w→wpOpsSIn (W none) 0 P ops Q l a cs w
 | [],a,w,_,_,h=>h
 | i :: l, a, w, hp, hQ, h => by
   simp only[wpOps] at h
   simp only[wpOpsSIn]
   cases ho:ops[i]? with
   | none=>simp only[ho] at h ⊢; exact Eo (λj hj=>hp j (by simp[hj])) hQ h
   | some o =>
     simp only[ho] at h ⊢
     refine⟨λ_ _=>zO _,?_⟩
     split at h
     ·rename_i hw
      rw[ah hw]
      rcases h with h|⟨_,h⟩
      ·unfold Oper.wp at h
       have fN:=(b9S (P:=P) (w:=w) (hp i (by simp) o ho) (ρ:=a.eval)).1
       generalize (execOp a.eval o).run P w=res at h fN
       cases res with
       | ok r w' =>
         rcases fN r w' rfl with⟨v,rfl⟩|rfl
         ·exact Eo (λj hj=>hp j (by simp[hj])) hQ h
         ·exact Eo (λj hj=>hp j (by simp[hj])) hQ h
       | halt x w'=>cases x<;>simp only[Oper.upon] at h ⊢<;>first | exact h | exact h.elim
      ·exact absurd h hQ
     ·rename_i hw
      rw[ae hw]
      exact Eo (λj hj=>hp j (by simp[hj])) hQ h
theorem b5a {c:Code} {Q:Exit→Act→List Frame→World→Prop} {a:Act} {cs:List Frame} (h:∀fid,wpN none fid P c (λe a w=>Q e a cs w) a w):c.wpSIn (W none) 0 P Q a cs w:=by
 intro b k _ hr _ _
 obtain⟨e,a',w',q,r⟩:=h b.fn b k cs hr rfl
 exact⟨e,a',cs,w',rfl,q,r⟩
end
section
variable {E:Env} {N:Nm} {P:Program}
def L0:Nat→Option PFunc:=λ_=>none
theorem LF (n:Nat):Runs N P L0 n:=by
 refine⟨⟨?_,?_⟩,?_,?_,?_⟩
 ·intro k args r h h' hc; simp[xx,L0] at hc
 ·intro k own args r h' hc; simp[xx,L0] at hc
 ·intro k args o h h' hc; simp[xK,L0] at hc
 ·intro k y n l tmps caps args o h h' _ hc; simp[xK,L0] at hc
 ·intro k hk; simp[B1,L0] at hk
theorem LG:x7 N P L0:=by intro k f h; simp[L0] at h
theorem b9T (hE:EnvOk E N) (hP:E.P=P) (dl:P.follows .mixedOrders=true) (ml:E.lps=[]) {k:Nat} {fn:Func} {id0:Nat} {ops0:Array Oper} {c2:Code} {vs:List Tmp} {pos0:List PO} {d5 d6:Tmp} {tA T t:Nat} {z:PV} {nv q:Nat} {o0 o1:Oper} {g:List PV→List PObj→Option (List PObj)}
  (hf:P.funcs[N.fn k]? = some fn) (hb:fn.body=some (.seq (.region id0 ops0 false) c2)) (dp:fn.results = #[])
  (h0:ops0[0]? = some o0) (nP:∃ts,o0.op = .call { callee := .builtin .recover,args := #[],argTypes:=ts }) (qL:o0.dst=some d5) (qM:o0.guard=none)
  (h1:ops0[1]? = some o1) (qN:o1.op = .typeAssert (.tmp d5) tA T true) (qO:o1.dst=some d6) (qP:o1.guard=none) (hT:N.ty t=T) (mn:∃fs,P.underlying T=some (.struct fs)) (hz:Dh P T=some z)
  (iF:∀i,2≤i→∀o,ops0[i]? = some o→En o=true) (ul:d5<fn.ntmps) (nQ:(xH d5 vs 0).isNone=true) (pJ:vs[q]? = some d6)
  (dj:vs.Nodup) (cO:∀t∈vs,t<fn.ntmps) (hnv:vs.length=nv) (hq:2≤q) (iP:vs[0]? = some 0) (iA:vs[1]? = some 1)
  (jY:AW E fn.ntmps vs ops0 false=some pos0) (gO:(xL E fn.ntmps vs c2).NR=true)
  (cM:∀p caps h h',g (p::caps) h=some h'→caps.length=2∧∃tup:PV,(p = .nilIface∧tup = .tuple [z,.bool false]∨∃v,p = .iface t v∧tup = .tuple [v,.bool true]) ∧
   ∃n st1 x st2,xM (xx (vY L0 0) L0) pos0 (List.range' 2 (ops0.size - 2)) { vars:=(caps.map dem++List.replicate (nv - 2) PV.dead).set q tup,locs:=List.replicate pos0.length .dead,gen:=0,heap:=h }=some st1∧vY L0 n (xL E fn.ntmps vs c2) (xc st1)=some (x,st2)∧(x = .normal∨x = .ret)∧st2.heap=h'):
  Cd N P k g:=by
 intro p caps h h' hg w G vals dZ cQ cR u hu
 obtain⟨dS,tup,nR,n,st1,x,st2,qQ,qR,hx,dQ⟩:=cM p caps h h' hg
 refine callsDIn_of_wpSIn (F:=W none) hf hb (zO _) ?_
 intro c₀ cs jZ
 refine wpSIn_seq (wpSIn_region ?_)
 have eP:2≤ops0.size:=by have:=(aX.1 h1).1; omega
 have iu:List.range ops0.size=0::1::List.range' 2 (ops0.size - 2):=by
  obtain⟨m,hm⟩:∃m,ops0.size=m+2:=⟨ops0.size - 2,by omega⟩
  rw[hm,cD,List.range'_succ,List.range'_succ]
  rfl
 rw[iu]
 obtain⟨rv,u',cs',dO,wA,iG,nS⟩:∃rv u',∃cs':List Frame,(match recoverD (c₀::cs) with | some (v,cs')=>(v,cs') | none=>(.nilIface,c₀::cs))=(rv,cs')∧settle u' = .returning∧cs'={ c₀ with mode:=u' }::cs∧VR N w G.fix G.heap rv p:=by
  rcases hu with⟨rfl,rfl⟩|⟨v,rfl,hv⟩
  ·refine⟨.nilIface,.returning,c₀::cs,?_,rfl,by rw[← jZ],.nilIface⟩
   simp[recoverD,jZ]
  ·refine⟨v,.panicking [{ v,recovered:=true }],_,?_,rfl,rfl,hv⟩
   simp[recoverD,jZ]
 let a0:Act:={ tmps:=vals++Array.replicate (fn.ntmps - vals.size) undef,defers:=[] }
 have step0:∀{Q:Exit→Act→List Frame→World→Prop} {rest:List Nat},wpOpsSIn (W none) 0 P ops0 Q rest (a0.put (some d5) rv) cs' w→wpOpsSIn (W none) 0 P ops0 Q (0::rest) a0 (c₀::cs) w:=by
  intro Q rest hw
  obtain⟨ts,nP⟩:=nP
  simp only[wpOpsSIn,h0]
  refine⟨λ_ _=>zO _,?_⟩
  have nT:(execOp a0.eval o0).run P w = .ok .recover w:=by
   simp[execOp,nP,resolve,invoke,builtin]
  simp only[Region.wanted,qM,if_true,nT,qL]
  cases hr:recoverD (c₀::cs) with
  | none=>rw[hr] at dO; simp only[ac] at dO; obtain⟨rfl,rfl⟩:=dO; exact hw
  | some y=>obtain⟨v,cs2⟩:=y; rw[hr] at dO; simp only[ac] at dO; obtain⟨rfl,rfl⟩:=dO; exact hw
 refine step0 ?_
 have fG:a0.tmps.size≥fn.ntmps:=by
  simp only[a0,bH,cy]; omega
 have qS:(a0.put (some d5) rv).eval (.tmp d5)=rv:=by
  have:d5<a0.tmps.size:=aN ul fG
  simp[Act.eval,Act.put,aK,aY,this]
 obtain⟨tv,um,qT⟩:∃tv,(Instr.typeAssert rv tA T true).run P w = .ok tv w∧VR N w G.fix G.heap tv tup:=by
  obtain⟨fs,mn⟩:=mn
  rcases nR with⟨rfl,rfl⟩|⟨v,rfl,rfl⟩
  ·cases nS
   obtain⟨zv,z1,z2,_⟩:=LH (P:=P) (N:=N) (w:=w) (fix:=G.fix) (hp:=G.heap) hz
   refine⟨.tuple #[zv,.bool false],by simp[Instr.typeAssert,Sem.run_bind,run_underlying mn,Result.andThen_ok,z1],.tuple _ _ rfl ?_⟩
   intro i c p hc hp
   match i,hc,hp with
   | 0,hc,hp=>simp at hc hp; subst hc hp; exact z2
   | 1,hc,hp=>simp at hc hp; subst hc hp; exact .bool _
  ·cases nS with
   | iface _ v' _ hv =>
     refine⟨.tuple #[v',.bool true],by simp[Instr.typeAssert,Sem.run_bind,run_underlying mn,Result.andThen_ok,hT],.tuple _ _ rfl ?_⟩
     intro i c p hc hp
     match i,hc,hp with
     | 0,hc,hp=>simp at hc hp; subst hc hp; exact hv
     | 1,hc,hp=>simp at hc hp; subst hc hp; exact .bool _
 let a2:Act:=(a0.put (some d5) rv).put (some d6) tv
 have xn:∀{Q:Exit→Act→List Frame→World→Prop} {rest:List Nat},wpOpsSIn (W none) 0 P ops0 Q rest a2 cs' w→wpOpsSIn (W none) 0 P ops0 Q (1::rest) (a0.put (some d5) rv) cs' w:=by
  intro Q rest hw
  simp only[wpOpsSIn,h1]
  refine⟨λ_ _=>zO _,?_⟩
  have jO:(execOp (a0.put (some d5) rv).eval o1).run P w = .ok (.value tv) w:=by
   simp only[execOp,qN,qS,Sem.run_bind,um,Result.andThen_ok,Sem.run_pure]
  simp only[Region.wanted,qP,if_true,jO,qO]
  exact hw
 refine xn ?_
 have cP:B5 vs ops0.toList=true∧D4 fn.ntmps ops0.toList=true∧BK E vs ops0.toList ops0.toList=some pos0:=by
  unfold AW at jY
  split at jY
  ·rename_i hc
   simp only[am] at hc
   simp only[af] at jY
   obtain⟨pos',h1,h2⟩:=jY
   simp only[bI,aH,if_false,aa] at h2
   subst h2
   exact⟨hc.1.1,hc.1.2,h1⟩
  ·simp at jY
 obtain⟨nU,dU,nV⟩:=cP
 have nm:=Fy dj nU
 let G0:GS:={ G with df:=[] }
 have fC:FI N w G0 { vars:=(caps.map dem++List.replicate (nv - 2) PV.dead).set q tup,locs:=List.replicate pos0.length .dead,gen:=0,heap:=h } a2 vs (vS vs ops0.toList):=by
  have jh:a2.tmps.size=a0.tmps.size:=by simp[a2,Act.put]
  refine⟨?_,?_,?_,?_,?_,rfl,(by intro g b h; have h:G.box g=some b:=h; rw[dZ.only.box] at h; simp at h),dZ.owlt,dZ.fixlt,dZ.heap,dZ.hdom⟩
  ·have:2<vs.length:=Nat.lt_of_le_of_lt hq (aj.1 pJ).1
   simp[dS]; omega
  ·intro i t' u1 gH dK
   rw[aI] at dK
   have qU:t'≠d5:=by
    rintro rfl
    have:=Hu gH 0
    simp at nQ
    rw[nQ] at this
    simp at this
   by_cases qV:q=i
   ·subst qV
    rw[pJ] at gH
    simp only[aa] at gH
    subst gH
    rw[ah rfl] at dK
    split at dK
    ·simp only[aa] at dK
     subst dK
     have eu:a2.eval (.tmp d6)=tv:=by
      have:d6<a0.tmps.size:=aN (cO _ (av pJ)) fG
      simp[a2,Act.eval,Act.put,aK,aY,this]
     rw[eu]
     refine SR.of_pure qT ?_
     rcases nR with⟨_,rfl⟩|⟨_,_,rfl⟩<;>rfl
    ·simp at dK
   ·rw[ae qV] at dK
    have qW:t'≠d6:=by
     rintro rfl
     have mY:=(aj.1 pJ)
     have il:=(aj.1 gH)
     obtain⟨p1,p2⟩:=mY
     obtain⟨p3,p4⟩:=il
     exact qV ((List.getElem_inj dj).1 (p2.trans p4.symm))
    have eu:a2.eval (.tmp t')=a0.eval (.tmp t'):=by
     simp only[a2,Act.eval,Act.put,aK,aY]
     rw[ae (Ne.symm qW),ae (Ne.symm qU)]
    rw[eu]
    by_cases hi:i<2
    ·have lD:t'=i:=by
      match i,hi with
      | 0,_=>rw[iP] at gH; simpa using gH.symm
      | 1,_=>rw[iA] at gH; simpa using gH.symm
     subst lD
     have gF:t'<caps.length:=by rw[dS]; exact hi
     rw[al (by simpa using gF)] at dK
     simp only[aA,aq gF,ay,aa] at dK
     subst dK
     have jD:t'<vals.size:=by rw[cQ]; exact gF
     have eu:a0.eval (.tmp t')=vals[t']:=by
      simp only[a0,Act.eval,aK]
      rw[bk jD]
      simp[jD]
     rw[eu]
     have hv:=cR t' vals[t'] caps[t'] (by simp[jD]) (aq gF)
     exact SR.of_pure hv.dem hv.cp_dem
    ·rw[ap (by rw[aS,dS]; omega)] at dK
     rw[ct] at dK
     split at dK
     ·simp at dK; subst dK; trivial
     ·simp at dK
  ·intro j t' u1 _ lY
   simp only[ct] at lY
   split at lY
   ·simp at lY; subst lY; trivial
   ·simp at lY
  ·intro i t' hi
   rw[jh]
   exact aN (cO _ (av hi)) fG
  ·intro j t' hj
   rw[jh]
   exact aN (Fv dU j t' hj) fG
 refine Eo ?_ ?_ ?_
 ·intro i hi o ho
  refine iF i ?_ o ho
  rw[List.mem_range'_1] at hi
  exact hi.1
 ·rintro⟨a,w,h⟩
  simp only[Exit.thenS,bodyPostS] at h
  obtain⟨u2,⟨v,hv⟩,_⟩:=h
  cases hv
 ·refine Hs (L:=L0) LG hE hP nm (LF 0).call (by intro k args h r hc; simp[xx,L0] at hc) nV qQ fC ?_
  intro a' w' G' iQ he hs
  simp only[Exit.thenS]
  refine b5a λfid =>?_
  have jh:a2.tmps.size=a0.tmps.size:=by simp[a2,Act.put]
  have cX:=FI.finish (nt:=fn.ntmps) iQ (by rw[hs,jh]; exact fG)
  refine BL (L:=L0) (rd':=none) LG hE hP dl dj n (λm _=>LF m) D7 qR cX ?_ (.inl rfl) ?_ ?_
  ·intro ps kb vars hl
   rw[ml] at hl
   simp at hl
  ·rintro⟨a,w,h⟩
   simp only[bodyPostS] at h
   obtain⟨u2,⟨v,hv⟩,_⟩:=h
   cases hv
  ·intro a3 w3 G3 e sN kz jR qX
   have dq:ExtD w G w3 G3:=ExtD.trans (ExtD.of he:ExtD w G0 w' G') jR
   have fW:G'.df=[]:=he.df
   have d9:G3.df=[]:=by
    have key:(∃ms,G3.df=ms++G'.df∧Marks w' w3 G3 ms∧((xL E fn.ntmps vs c2).NR=true→ms=[]))→G3.df=[]:=by
     rintro⟨ms,q1,_,q3⟩
     rw[q1,q3 gO,fW]; rfl
    rcases hx with rfl|rfl<;>exact key qX
   have dL:bodyPostS P fn c₀ cs (λe u' w'=>(∃v,e = .returned v)∧settle u' = .returning∧∃G',Ext w G w' G'∧Between N w' G' h') .normal a3 cs' w3:=by
    refine⟨by rw[kz.fi.defers,d9],u',iG,.tuple #[],?_,⟨_,rfl⟩,wA,?_⟩
    ·unfold results
     rw[dp]
     simp
    ·obtain⟨l1,l2⟩:=Dj dq kz (DefW.refl _) (λ_ _=>rfl) st2.vars []
     rw[← dQ]
     exact⟨_,l1,l2⟩
   rcases hx with rfl|rfl<;>(simp only[yB] at sN; subst sN; exact dL)
def Bo:List PO:=[⟨.l,BN,none⟩,⟨.v 4,BN,none⟩,⟨.l,.mov (.v 4),none⟩,⟨.l,.extract 0 (.l 2),none⟩,⟨.l,.extract 1 (.l 2),none⟩,⟨.v 2,.newloc [.int .i64 0,.int .i64 0,.int .i64 0],none⟩,⟨.n,.store 3 true (.v 2) (.l 3),none⟩,⟨.v 3,.take (.l 4),none⟩]
def Dt:PC := .branch [⟨.l,.mov (.v 3),none⟩] (.l 0) (.region [⟨.l,.faddr 0 (.v 2),none⟩,⟨.l,.load 2 true (.l 0) false,none⟩,⟨.l,.faddr 2 (.v 2),none⟩,⟨.l,.load 1 false (.l 2) false,none⟩,⟨.n,.h (.storer 2 true (.v 0) (.l 1)),none⟩,⟨.n,.h (.storer 1 false (.v 1) (.l 3)),none⟩]) .skip
def Cg:PV := .agg [.int .i64 0,.int .i64 0,.int .i64 0]
theorem c4e {t:Nat} {p:PV} {caps:List PV} {h h':List PObj} (hg:Aq t (p::caps) h=some h'):caps.length=2∧∃tup:PV,(p = .nilIface∧tup = .tuple [Cg,.bool false]∨∃v,p = .iface t v∧tup = .tuple [v,.bool true]) ∧
   ∃n st1 x st2,xM (xx (vY L0 0) L0) Bo (List.range' 2 (8 - 2)) { vars:=(caps.map dem++List.replicate (5 - 2) PV.dead).set 4 tup,locs:=List.replicate Bo.length .dead,gen:=0,heap:=h }=some st1∧vY L0 n Dt (xc st1)=some (x,st2)∧(x = .normal∨x = .ret)∧st2.heap=h':=by
 have fin:∀{tup:PV} {st1:St} {x:PExit} {st2:St},yc (xx (vY L0 0) L0) 2 (Bo.drop 2) { vars:=(caps.map dem++List.replicate (5 - 2) PV.dead).set 4 tup,locs:=List.replicate Bo.length .dead,gen:=0,heap:=h }=some st1→evL L0 Dt (xc st1)=some (x,st2)→(x = .normal∨x = .ret)→st2.heap=h' →
   ∃n st1 x st2,xM (xx (vY L0 0) L0) Bo (List.range' 2 (8 - 2)) { vars:=(caps.map dem++List.replicate (5 - 2) PV.dead).set 4 tup,locs:=List.replicate Bo.length .dead,gen:=0,heap:=h }=some st1∧vY L0 n Dt (xc st1)=some (x,st2)∧(x = .normal∨x = .ret)∧st2.heap=h':=by
  intro tup st1 x st2 h1 h2 h3 h4
  obtain⟨n,hn⟩:=wW.1 h2
  rw[Fz (all:=Bo) rfl] at h1
  exact⟨n,st1,x,st2,h1,hn,h3,h4⟩
 unfold Aq at hg
 split at hg
 ·rename_i n m heq
  simp only[bq] at heq
  obtain⟨rfl,rfl⟩:=heq
  simp only[aa] at hg
  subst hg
  refine⟨rfl,_,.inl ⟨rfl,rfl⟩,fin (st1:=⟨[.ptr n 0,.ptr m 0,.loc 0 [.int .i64 0,.int .i64 0,.int .i64 0],.bool false,.tuple [Cg,.bool false]],[.dead,.dead,.tuple [Cg,.bool false],Cg,.bool false,.dead,.dead,.dead],1,h⟩) (st2:=⟨[.ptr n 0,.ptr m 0,.loc 0 [.int .i64 0,.int .i64 0,.int .i64 0],.bool false,.tuple [Cg,.bool false]],[],1,h⟩) ?_ ?_ (.inl rfl) rfl⟩
  ·simp[Bo,Cg,BN,wz]
  ·simp[Dt]
 ·rename_i t' k1 a k2 b k3 c n m heq
  simp only[bq] at heq
  obtain⟨rfl,rfl⟩:=heq
  split at hg
  ·rename_i hc
   obtain⟨rfl,iH⟩:=hc
   split at hg
   ·rename_i x1 x2 x3 hn hm
    simp only[aa] at hg
    subst hg
    refine⟨rfl,_,.inr ⟨_,rfl,rfl⟩,fin (st1:=⟨[.ptr n 0,.ptr m 0,.loc 0 [.int k1 a,.int k2 b,.int k3 c],.bool true,.tuple [.agg [.int k1 a,.int k2 b,.int k3 c],.bool true]],[.dead,.dead,.tuple [.agg [.int k1 a,.int k2 b,.int k3 c],.bool true],.agg [.int k1 a,.int k2 b,.int k3 c],.bool true,.dead,.dead,.dead],1,h⟩) (st2:=⟨[.ptr n 0,.ptr m 0,.loc 0 [.int k1 a,.int k2 b,.int k3 c],.bool true,.tuple [.agg [.int k1 a,.int k2 b,.int k3 c],.bool true]],[],1,(h.set n (.cells [.int k1 a,.int k2 b])).set m (.cells [.int k3 c])⟩) ?_ ?_ (.inl rfl) rfl⟩
    ·simp[Bo,Cg,BN,wz]
    ·have ky:(h.set n (.cells [.int k1 a,.int k2 b]))[m]? = some (.cells [x3]):=by rw[ak iH]; exact hm
     simp[Dt,wz,wh,hn,ky,PV.flat,Fo]
   ·simp at hg
  ·simp at hg
 ·simp at hg
theorem LI (hE:EnvOk E N) (hP:E.P=P) (dl:P.follows .mixedOrders=true) (ml:E.lps=[]) {k:Nat} {fn:Func} {id0:Nat} {ops0:Array Oper} {c2:Code} {tA T t:Nat} {o0 o1:Oper} (hf:P.funcs[N.fn k]? = some fn) (hb:fn.body=some (.seq (.region id0 ops0 false) c2)) (dp:fn.results = #[])
  (h0:ops0[0]? = some o0) (nP:∃ts,o0.op = .call { callee := .builtin .recover,args := #[],argTypes:=ts }) (qL:o0.dst=some 5) (qM:o0.guard=none)
  (h1:ops0[1]? = some o1) (qN:o1.op = .typeAssert (.tmp 5) tA T true) (qO:o1.dst=some 6) (qP:o1.guard=none) (hT:N.ty t=T) (mn:(match P.underlying T with | some (.struct _)=>true | _=>false)=true) (hz:Dh P T=some Cg)
  (cQ:ops0.size=8) (iF:(ops0.toList.drop 2).all En=true) (nW:fn.ntmps=14) (jY:AW E 14 [0,1,2,3,6] ops0 false=some Bo) (lU:xL E 14 [0,1,2,3,6] c2=Dt):Cd N P k (Aq t):=by
 refine b9T hE hP dl ml (vs:=[0,1,2,3,6]) (d5:=5) (d6:=6) (q:=4) (nv:=5) hf hb dp h0 nP qL qM h1 qN qO qP hT (by split at mn<;>first|exact⟨_,by assumption⟩|simp at mn) hz ?_ (by rw[nW]; decide) rfl rfl (by decide) (by rw[nW]; decide) rfl (by omega) rfl rfl (by rw[nW]; exact jY) (by rw[nW,lU]; rfl) ?_
 ·intro i hi o ho
  have:=aG.1 iF o
  refine this (av (i:=i - 2) ?_)
  rw[aT,show 2+(i - 2)=i by omega]
  simpa using ho
 ·intro p caps h h' hg
  have:=c4e hg
  rw[cQ,nW,lU]
  exact this
end
end PI
