import Derived.Test.YtljbhgpanekomaaGreatDoorPiFunc
import Derived.Test.YtljbhgpanekomaaGreatDoorPiWp
import Derived.RecoverIn
set_option linter.unusedSimpArgs false
set_option linter.unusedVariables false
set_option linter.unusedSectionVars false
namespace PI
open Go Go.RowKit
def AH (t:Nat) (args:List PV) (h:List PObj):Option (List PObj):=
 match args with
 | [.nilIface,.ptr _ 0,.ptr _ 0]=>some h
 | [.iface t' (.agg [.int k1 a, .int k2 b, .int k3 c]), .ptr n 0, .ptr m 0] =>
   if t'=t∧n≠m then
    match h[n]?,h[m]? with
    | some (.cells [_,_]),some (.cells [_])=>some ((h.set n (.cells [.int k1 a,.int k2 b])).set m (.cells [.int k3 c]))
    | _,_=>none
   else none
 | _=>none
def EU (o:Oper):Bool:=
 match o.op with
 | .move _ | .assign _ | .extract _ _ | .alloc _ | .store _ _ _ | .load _ _ | .fieldAddr _ _ _=>true
 | _=>false
section
variable {P:Program} {w:World}
theorem c0m {o:Oper} (h:EU o=true) {ρ:Operand→Value}:(∀r w',(execOp ρ o).run P w = .ok r w'→(∃v,r = .value v)∨r = .skip)∧True:=by
 refine⟨?_,trivial⟩
 intro r w' hr
 have val:∀(s:Sem Value),(do pure (.value (← s)):Sem Next).run P w = .ok r w'→∃v,r = .value v:=by
  intro s hs
  rw[Sem.run_bind] at hs
  cases hx:s.run P w with
  | ok v w1=>rw[hx] at hs; simp only[Result.andThen_ok,Sem.run_pure,Result.ok.injEq] at hs; exact⟨v,hs.1.symm⟩
  | halt x w1=>rw[hx] at hs; simp[Result.andThen] at hs
 have unit:∀(s:Sem Unit),(do s; pure .skip:Sem Next).run P w = .ok r w'→r = .skip:=by
  intro s hs
  rw[Sem.run_bind] at hs
  cases hx:s.run P w with
  | ok v w1=>rw[hx] at hs; simp only[Result.andThen_ok,Sem.run_pure,Result.ok.injEq] at hs; exact hs.1.symm
  | halt x w1=>rw[hx] at hs; simp[Result.andThen] at hs
 unfold EU at h
 unfold execOp at hr
 cases cN:o.op<;>rw[cN] at h hr<;>simp only[reduceCtorEq,aH] at h
 all_goals first
  | exact .inl (val _ hr)
  | exact .inr (unit _ hr)
  | (simp only[Sem.run_pure,Result.ok.injEq] at hr; exact .inl ⟨_,hr.1.symm⟩)
theorem EV {ops:Array Oper} {Q:Exit→Act→List Frame→World→Prop} {cs:List Frame}:∀{l:List Nat} {a:Act} {w:World},(∀i∈l,∀o,ops[i]? = some o→EU o=true)→¬LetsOut (λe a w=>Q e a cs w) →
  wpOps P ops (λe a w=>Q e a cs w) l a w→wpOpsSIn (W none) 0 P ops Q l a cs w
 | [],a,w,_,_,h=>h
 | i :: l, a, w, hp, hQ, h => by
   simp only[wpOps] at h
   simp only[wpOpsSIn]
   cases ho:ops[i]? with
   | none=>simp only[ho] at h ⊢; exact EV (λj hj=>hp j (by simp[hj])) hQ h
   | some o =>
     simp only[ho] at h ⊢
     refine⟨λ_ _=>Ah _,?_⟩
     split at h
     ·rename_i hw
      rw[ah hw]
      rcases h with h|⟨_,h⟩
      ·unfold Oper.wp at h
       have fW:=(c0m (P:=P) (w:=w) (hp i (by simp) o ho) (ρ:=a.eval)).1
       generalize (execOp a.eval o).run P w=res at h fW
       cases res with
       | ok r w' =>
         rcases fW r w' rfl with⟨v,rfl⟩|rfl
         ·exact EV (λj hj=>hp j (by simp[hj])) hQ h
         ·exact EV (λj hj=>hp j (by simp[hj])) hQ h
       | halt x w'=>cases x<;>simp only[Oper.upon] at h ⊢<;>first | exact h | exact h.elim
      ·exact absurd h hQ
     ·rename_i hw
      rw[af hw]
      exact EV (λj hj=>hp j (by simp[hj])) hQ h
theorem b5y {c:Code} {Q:Exit→Act→List Frame→World→Prop} {a:Act} {cs:List Frame} (h:∀fid,wpN none fid P c (λe a w=>Q e a cs w) a w):c.wpSIn (W none) 0 P Q a cs w:=by
 intro b k _ hr _ _
 obtain⟨e,a',w',q,r⟩:=h b.fn b k cs hr rfl
 exact⟨e,a',cs,w',rfl,q,r⟩
end
section
variable {E:Env} {N:Nm} {P:Program}
def L0:Nat→Option PFunc:=λ_=>none
theorem Mf (n:Nat):Runs N P L0 n:=by
 refine⟨⟨?_,?_⟩,?_,?_,?_⟩
 ·intro k args r h h' hc; simp[xO,L0] at hc
 ·intro k own args r h' hc; simp[xO,L0] at hc
 ·intro k args o h h' hc; simp[yc,L0] at hc
 ·intro k y n l tmps caps args o h h' _ hc; simp[yc,L0] at hc
 ·intro k hk; simp[Cv,L0] at hk
theorem Mg:yr N P L0:=by intro k f h; simp[L0] at h
theorem c0n (hE:EnvOk E N) (hP:E.P=P) (dq:P.follows .mixedOrders=true) (mC:E.lps=[]) {k:Nat} {fn:Func} {id0:Nat} {ops0:Array Oper} {c2:Code} {vs:List Tmp} {pos0:List PO} {d5 d6:Tmp} {tA T t:Nat} {z:PV} {nv q:Nat} {o0 o1:Oper} {g:List PV→List PObj→Option (List PObj)}
  (hf:P.funcs[N.fn k]? = some fn) (hb:fn.body=some (.seq (.region id0 ops0 false) c2)) (dt:fn.results = #[])
  (h0:ops0[0]? = some o0) (oq:∃ts,o0.op = .call { callee := .builtin .recover,args := #[],argTypes:=ts }) (rn:o0.dst=some d5) (ro:o0.guard=none)
  (h1:ops0[1]? = some o1) (rp:o1.op = .typeAssert (.tmp d5) tA T true) (rq:o1.dst=some d6) (rr:o1.guard=none) (hT:N.ty t=T) (mD:∃fs,P.underlying T=some (.struct fs)) (hz:DH P T=some z)
  (iN:∀i,2≤i→∀o,ops0[i]? = some o→EU o=true) (uL:d5<fn.ntmps) (ot:(x5 d5 vs 0).isNone=true) (p8:vs[q]? = some d6)
  (dl:vs.Nodup) (cQ:∀t∈vs,t<fn.ntmps) (hnv:vs.length=nv) (hq:2≤q) (iW:vs[0]? = some 0) (iJ:vs[1]? = some 1)
  (ke:Bi E fn.ntmps vs ops0 false=some pos0) (gX:(yd E fn.ntmps vs c2).NR=true)
  (cO:∀p caps h h',g (p::caps) h=some h'→caps.length=2∧∃tup:PV,(p = .nilIface∧tup = .tuple [z,.bool false]∨∃v,p = .iface t v∧tup = .tuple [v,.bool true]) ∧
   ∃n st1 x st2,ye (xO (wr L0 0) L0) pos0 (List.range' 2 (ops0.size - 2)) { vars:=(caps.map dem++List.replicate (nv - 2) PV.dead).set q tup,locs:=List.replicate pos0.length .dead,gen:=0,heap:=h }=some st1∧wr L0 n (yd E fn.ntmps vs c2) (xu st1)=some (x,st2)∧(x = .normal∨x = .ret)∧st2.heap=h'):
  CH N P k g:=by
 intro p caps h h' hg w G vals d4 cS cT u hu
 obtain⟨dN,tup,ou,n,st1,x,st2,rt,ru,hx,dU⟩:=cO p caps h h' hg
 refine callsDIn_of_wpSIn (F:=W none) hf hb (Ah _) ?_
 intro c₀ cs kg
 refine wpSIn_seq (wpSIn_region ?_)
 have eU:2≤ops0.size:=by have:=(ba.1 h1).1; omega
 have iE:List.range ops0.size=0::1::List.range' 2 (ops0.size - 2):=by
  obtain⟨m,hm⟩:∃m,ops0.size=m+2:=⟨ops0.size - 2,by omega⟩
  rw[hm,cG,List.range'_succ,List.range'_succ]
  rfl
 rw[iE]
 obtain⟨rv,u',cs',dR,wT,iO,ov⟩:∃rv u',∃cs':List Frame,(match recoverD (c₀::cs) with | some (v,cs')=>(v,cs') | none=>(.nilIface,c₀::cs))=(rv,cs')∧settle u' = .returning∧cs'={ c₀ with mode:=u' }::cs∧VR N w G.fix G.heap rv p:=by
  rcases hu with⟨rfl,rfl⟩|⟨v,rfl,hv⟩
  ·refine⟨.nilIface,.returning,c₀::cs,?_,rfl,by rw[← kg],.nilIface⟩
   simp[recoverD,kg]
  ·refine⟨v,.panicking [{ v,recovered:=true }],_,?_,rfl,rfl,hv⟩
   simp[recoverD,kg]
 let a0:Act:={ tmps:=vals++Array.replicate (fn.ntmps - vals.size) undef,defers:=[] }
 have step0:∀{Q:Exit→Act→List Frame→World→Prop} {rest:List Nat},wpOpsSIn (W none) 0 P ops0 Q rest (a0.put (some d5) rv) cs' w→wpOpsSIn (W none) 0 P ops0 Q (0::rest) a0 (c₀::cs) w:=by
  intro Q rest hw
  obtain⟨ts,oq⟩:=oq
  simp only[wpOpsSIn,h0]
  refine⟨λ_ _=>Ah _,?_⟩
  have oz:(execOp a0.eval o0).run P w = .ok .recover w:=by
   simp[execOp,oq,resolve,invoke,builtin]
  simp only[Region.wanted,ro,if_true,oz,rn]
  cases hr:recoverD (c₀::cs) with
  | none=>rw[hr] at dR; simp only[ac] at dR; obtain⟨rfl,rfl⟩:=dR; exact hw
  | some y=>obtain⟨v,cs2⟩:=y; rw[hr] at dR; simp only[ac] at dR; obtain⟨rfl,rfl⟩:=dR; exact hw
 refine step0 ?_
 have fJ:a0.tmps.size≥fn.ntmps:=by
  simp only[a0,bH,cy]; omega
 have rx:(a0.put (some d5) rv).eval (.tmp d5)=rv:=by
  have:d5<a0.tmps.size:=aK uL fJ
  simp[Act.eval,Act.put,aM,bb,this]
 obtain⟨tv,uM,ry⟩:∃tv,(Instr.typeAssert rv tA T true).run P w = .ok tv w∧VR N w G.fix G.heap tv tup:=by
  obtain⟨fs,mD⟩:=mD
  rcases ou with⟨rfl,rfl⟩|⟨v,rfl,rfl⟩
  ·cases ov
   obtain⟨zv,z1,z2,_⟩:=Mh (P:=P) (N:=N) (w:=w) (fix:=G.fix) (hp:=G.heap) hz
   refine⟨.tuple #[zv,.bool false],by simp[Instr.typeAssert,Sem.run_bind,run_underlying mD,Result.andThen_ok,z1],.tuple _ _ rfl ?_⟩
   intro i c p hc hp
   match i,hc,hp with
   | 0,hc,hp=>simp at hc hp; subst hc hp; exact z2
   | 1,hc,hp=>simp at hc hp; subst hc hp; exact .bool _
  ·cases ov with
   | iface _ v' _ hv =>
     refine⟨.tuple #[v',.bool true],by simp[Instr.typeAssert,Sem.run_bind,run_underlying mD,Result.andThen_ok,hT],.tuple _ _ rfl ?_⟩
     intro i c p hc hp
     match i,hc,hp with
     | 0,hc,hp=>simp at hc hp; subst hc hp; exact hv
     | 1,hc,hp=>simp at hc hp; subst hc hp; exact .bool _
 let a2:Act:=(a0.put (some d5) rv).put (some d6) tv
 have xG:∀{Q:Exit→Act→List Frame→World→Prop} {rest:List Nat},wpOpsSIn (W none) 0 P ops0 Q rest a2 cs' w→wpOpsSIn (W none) 0 P ops0 Q (1::rest) (a0.put (some d5) rv) cs' w:=by
  intro Q rest hw
  simp only[wpOpsSIn,h1]
  refine⟨λ_ _=>Ah _,?_⟩
  have jW:(execOp (a0.put (some d5) rv).eval o1).run P w = .ok (.value tv) w:=by
   simp only[execOp,rp,rx,Sem.run_bind,uM,Result.andThen_ok,Sem.run_pure]
  simp only[Region.wanted,rr,if_true,jW,rq]
  exact hw
 refine xG ?_
 have cR:Cz vs ops0.toList=true∧Ey fn.ntmps ops0.toList=true∧B9 E vs ops0.toList ops0.toList=some pos0:=by
  unfold Bi at ke
  split at ke
  ·rename_i hc
   simp only[al] at hc
   simp only[ae] at ke
   obtain⟨pos',h1,h2⟩:=ke
   simp only[bL,aH,if_false,aa] at h2
   subst h2
   exact⟨hc.1.1,hc.1.2,h1⟩
  ·simp at ke
 obtain⟨oA,dZ,oB⟩:=cR
 have nm:=F0 dl oA
 let G0:GS:={ G with df:=[] }
 have fF:FI N w G0 { vars:=(caps.map dem++List.replicate (nv - 2) PV.dead).set q tup,locs:=List.replicate pos0.length .dead,gen:=0,heap:=h } a2 vs (wk vs ops0.toList):=by
  have ju:a2.tmps.size=a0.tmps.size:=by simp[a2,Act.put]
  refine⟨?_,?_,?_,?_,?_,rfl,(by intro g b h; have h:G.box g=some b:=h; rw[d4.only.box] at h; simp at h),d4.owlt,d4.fixlt,d4.heap,d4.hdom⟩
  ·have:2<vs.length:=Nat.lt_of_le_of_lt hq (aj.1 p8).1
   simp[dN]; omega
  ·intro i t' u1 gO dM
   rw[aL] at dM
   have rz:t'≠d5:=by
    rintro rfl
    have:=Id gO 0
    simp at ot
    rw[ot] at this
    simp at this
   by_cases rA:q=i
   ·subst rA
    rw[p8] at gO
    simp only[aa] at gO
    subst gO
    rw[ah rfl] at dM
    split at dM
    ·simp only[aa] at dM
     subst dM
     have eM:a2.eval (.tmp d6)=tv:=by
      have:d6<a0.tmps.size:=aK (cQ _ (ax p8)) fJ
      simp[a2,Act.eval,Act.put,aM,bb,this]
     rw[eM]
     refine SR.of_pure ry ?_
     rcases ou with⟨_,rfl⟩|⟨_,_,rfl⟩<;>rfl
    ·simp at dM
   ·rw[af rA] at dM
    have rB:t'≠d6:=by
     rintro rfl
     have nq:=(aj.1 p8)
     have it:=(aj.1 gO)
     obtain⟨p1,p2⟩:=nq
     obtain⟨p3,p4⟩:=it
     exact rA ((List.getElem_inj dl).1 (p2.trans p4.symm))
    have eM:a2.eval (.tmp t')=a0.eval (.tmp t'):=by
     simp only[a2,Act.eval,Act.put,aM,bb]
     rw[af (Ne.symm rB),af (Ne.symm rz)]
    rw[eM]
    by_cases hi:i<2
    ·have lP:t'=i:=by
      match i,hi with
      | 0,_=>rw[iW] at gO; simpa using gO.symm
      | 1,_=>rw[iJ] at gO; simpa using gO.symm
     subst lP
     have gM:t'<caps.length:=by rw[dN]; exact hi
     rw[am (by simpa using gM)] at dM
     simp only[aF,av gM,aA,aa] at dM
     subst dM
     have jK:t'<vals.size:=by rw[cS]; exact gM
     have eM:a0.eval (.tmp t')=vals[t']:=by
      simp only[a0,Act.eval,aM]
      rw[bm jK]
      simp[jK]
     rw[eM]
     have hv:=cT t' vals[t'] caps[t'] (by simp[jK]) (av gM)
     exact SR.of_pure hv.dem hv.cp_dem
    ·rw[ar (by rw[aN,dN]; omega)] at dM
     rw[ct] at dM
     split at dM
     ·simp at dM; subst dM; trivial
     ·simp at dM
  ·intro j t' u1 _ mi
   simp only[ct] at mi
   split at mi
   ·simp at mi; subst mi; trivial
   ·simp at mi
  ·intro i t' hi
   rw[ju]
   exact aK (cQ _ (ax hi)) fJ
  ·intro j t' hj
   rw[ju]
   exact aK (FX dZ j t' hj) fJ
 refine EV ?_ ?_ ?_
 ·intro i hi o ho
  refine iN i ?_ o ho
  rw[List.mem_range'_1] at hi
  exact hi.1
 ·rintro⟨a,w,h⟩
  simp only[Exit.thenS,bodyPostS] at h
  obtain⟨u2,⟨v,hv⟩,_⟩:=h
  cases hv
 ·refine Ib (L:=L0) Mg hE hP nm (Mf 0).call (by intro k args h r hc; simp[xO,L0] at hc) oB rt fF ?_
  intro a' w' G' iX he hs
  simp only[Exit.thenS]
  refine b5y λfid =>?_
  have ju:a2.tmps.size=a0.tmps.size:=by simp[a2,Act.put]
  have cX:=FI.finish (nt:=fn.ntmps) iX (by rw[hs,ju]; exact fJ)
  refine Ca (L:=L0) (rd':=none) Mg hE hP dq dl n (λm _=>Mf m) EB ru cX ?_ (.inl rfl) ?_ ?_
  ·intro ps kb vars hl
   rw[mC] at hl
   simp at hl
  ·rintro⟨a,w,h⟩
   simp only[bodyPostS] at h
   obtain⟨u2,⟨v,hv⟩,_⟩:=h
   cases hv
  ·intro a3 w3 G3 e tc kN jZ rC
   have dm:ExtD w G w3 G3:=ExtD.trans (ExtD.of he:ExtD w G0 w' G') jZ
   have gf:G'.df=[]:=he.df
   have ed:G3.df=[]:=by
    have key:(∃ms,G3.df=ms++G'.df∧Marks w' w3 G3 ms∧((yd E fn.ntmps vs c2).NR=true→ms=[]))→G3.df=[]:=by
     rintro⟨ms,q1,_,q3⟩
     rw[q1,q3 gX,gf]; rfl
    rcases hx with rfl|rfl<;>exact key rC
   have dO:bodyPostS P fn c₀ cs (λe u' w'=>(∃v,e = .returned v)∧settle u' = .returning∧∃G',Ext w G w' G'∧Between N w' G' h') .normal a3 cs' w3:=by
    refine⟨by rw[kN.fi.defers,ed],u',iO,.tuple #[],?_,⟨_,rfl⟩,wT,?_⟩
    ·unfold results
     rw[dt]
     simp
    ·obtain⟨l1,l2⟩:=DJ dm kN (DefW.refl _) (λ_ _=>rfl) st2.vars []
     rw[← dU]
     exact⟨_,l1,l2⟩
   rcases hx with rfl|rfl<;>(simp only[yY] at tc; subst tc; exact dO)
def BQ:List PO:=[⟨.l,Cb,none⟩,⟨.v 4,Cb,none⟩,⟨.l,.mov (.v 4),none⟩,⟨.l,.extract 0 (.l 2),none⟩,⟨.l,.extract 1 (.l 2),none⟩,⟨.v 2,.newloc [.int .i64 0,.int .i64 0,.int .i64 0],none⟩,⟨.n,.store 3 true (.v 2) (.l 3),none⟩,⟨.v 3,.take (.l 4),none⟩]
def DS:PC := .branch [⟨.l,.mov (.v 3),none⟩] (.l 0) (.region [⟨.l,.faddr 0 (.v 2),none⟩,⟨.l,.load 2 true (.l 0) false,none⟩,⟨.l,.faddr 2 (.v 2),none⟩,⟨.l,.load 1 false (.l 2) false,none⟩,⟨.n,.h (.storer 2 true (.v 0) (.l 1)),none⟩,⟨.n,.h (.storer 1 false (.v 1) (.l 3)),none⟩]) .skip
def CK:PV := .agg [.int .i64 0,.int .i64 0,.int .i64 0]
theorem c4M {t:Nat} {p:PV} {caps:List PV} {h h':List PObj} (hg:AH t (p::caps) h=some h'):caps.length=2∧∃tup:PV,(p = .nilIface∧tup = .tuple [CK,.bool false]∨∃v,p = .iface t v∧tup = .tuple [v,.bool true]) ∧
   ∃n st1 x st2,ye (xO (wr L0 0) L0) BQ (List.range' 2 (8 - 2)) { vars:=(caps.map dem++List.replicate (5 - 2) PV.dead).set 4 tup,locs:=List.replicate BQ.length .dead,gen:=0,heap:=h }=some st1∧wr L0 n DS (xu st1)=some (x,st2)∧(x = .normal∨x = .ret)∧st2.heap=h':=by
 have fin:∀{tup:PV} {st1:St} {x:PExit} {st2:St},yB (xO (wr L0 0) L0) 2 (BQ.drop 2) { vars:=(caps.map dem++List.replicate (5 - 2) PV.dead).set 4 tup,locs:=List.replicate BQ.length .dead,gen:=0,heap:=h }=some st1→evL L0 DS (xu st1)=some (x,st2)→(x = .normal∨x = .ret)→st2.heap=h' →
   ∃n st1 x st2,ye (xO (wr L0 0) L0) BQ (List.range' 2 (8 - 2)) { vars:=(caps.map dem++List.replicate (5 - 2) PV.dead).set 4 tup,locs:=List.replicate BQ.length .dead,gen:=0,heap:=h }=some st1∧wr L0 n DS (xu st1)=some (x,st2)∧(x = .normal∨x = .ret)∧st2.heap=h':=by
  intro tup st1 x st2 h1 h2 h3 h4
  obtain⟨n,hn⟩:=xn.1 h2
  rw[F1 (all:=BQ) rfl] at h1
  exact⟨n,st1,x,st2,h1,hn,h3,h4⟩
 unfold AH at hg
 split at hg
 ·rename_i n m heq
  simp only[bx] at heq
  obtain⟨rfl,rfl⟩:=heq
  simp only[aa] at hg
  subst hg
  refine⟨rfl,_,.inl ⟨rfl,rfl⟩,fin (st1:=⟨[.ptr n 0,.ptr m 0,.loc 0 [.int .i64 0,.int .i64 0,.int .i64 0],.bool false,.tuple [CK,.bool false]],[.dead,.dead,.tuple [CK,.bool false],CK,.bool false,.dead,.dead,.dead],1,h⟩) (st2:=⟨[.ptr n 0,.ptr m 0,.loc 0 [.int .i64 0,.int .i64 0,.int .i64 0],.bool false,.tuple [CK,.bool false]],[],1,h⟩) ?_ ?_ (.inl rfl) rfl⟩
  ·simp[BQ,CK,Cb,wS]
  ·simp[DS]
 ·rename_i t' k1 a k2 b k3 c n m heq
  simp only[bx] at heq
  obtain⟨rfl,rfl⟩:=heq
  split at hg
  ·rename_i hc
   obtain⟨rfl,gx⟩:=hc
   split at hg
   ·rename_i x1 x2 x3 hn hm
    simp only[aa] at hg
    subst hg
    refine⟨rfl,_,.inr ⟨_,rfl,rfl⟩,fin (st1:=⟨[.ptr n 0,.ptr m 0,.loc 0 [.int k1 a,.int k2 b,.int k3 c],.bool true,.tuple [.agg [.int k1 a,.int k2 b,.int k3 c],.bool true]],[.dead,.dead,.tuple [.agg [.int k1 a,.int k2 b,.int k3 c],.bool true],.agg [.int k1 a,.int k2 b,.int k3 c],.bool true,.dead,.dead,.dead],1,h⟩) (st2:=⟨[.ptr n 0,.ptr m 0,.loc 0 [.int k1 a,.int k2 b,.int k3 c],.bool true,.tuple [.agg [.int k1 a,.int k2 b,.int k3 c],.bool true]],[],1,(h.set n (.cells [.int k1 a,.int k2 b])).set m (.cells [.int k3 c])⟩) ?_ ?_ (.inl rfl) rfl⟩
    ·simp[BQ,CK,Cb,wS]
    ·have kM:(h.set n (.cells [.int k1 a,.int k2 b]))[m]? = some (.cells [x3]):=by rw[an gx]; exact hm
     simp[DS,wS,wz,hn,kM,PV.flat,FR]
   ·simp at hg
  ·simp at hg
 ·simp at hg
theorem Mi (hE:EnvOk E N) (hP:E.P=P) (dq:P.follows .mixedOrders=true) (mC:E.lps=[]) {k:Nat} {fn:Func} {id0:Nat} {ops0:Array Oper} {c2:Code} {tA T t:Nat} {o0 o1:Oper} (hf:P.funcs[N.fn k]? = some fn) (hb:fn.body=some (.seq (.region id0 ops0 false) c2)) (dt:fn.results = #[])
  (h0:ops0[0]? = some o0) (oq:∃ts,o0.op = .call { callee := .builtin .recover,args := #[],argTypes:=ts }) (rn:o0.dst=some 5) (ro:o0.guard=none)
  (h1:ops0[1]? = some o1) (rp:o1.op = .typeAssert (.tmp 5) tA T true) (rq:o1.dst=some 6) (rr:o1.guard=none) (hT:N.ty t=T) (mD:(match P.underlying T with | some (.struct _)=>true | _=>false)=true) (hz:DH P T=some CK)
  (cS:ops0.size=8) (iN:(ops0.toList.drop 2).all EU=true) (oC:fn.ntmps=14) (ke:Bi E 14 [0,1,2,3,6] ops0 false=some BQ) (mg:yd E 14 [0,1,2,3,6] c2=DS):CH N P k (AH t):=by
 refine c0n hE hP dq mC (vs:=[0,1,2,3,6]) (d5:=5) (d6:=6) (q:=4) (nv:=5) hf hb dt h0 oq rn ro h1 rp rq rr hT (by split at mD<;>first|exact⟨_,by assumption⟩|simp at mD) hz ?_ (by rw[oC]; decide) rfl rfl (by decide) (by rw[oC]; decide) rfl (by omega) rfl rfl (by rw[oC]; exact ke) (by rw[oC,mg]; rfl) ?_
 ·intro i hi o ho
  have:=aD.1 iN o
  refine this (ax (i:=i - 2) ?_)
  rw[aW,show 2+(i - 2)=i by omega]
  simpa using ho
 ·intro p caps h h' hg
  have:=c4M hg
  rw[cS,oC,mg]
  exact this
end
end PI
