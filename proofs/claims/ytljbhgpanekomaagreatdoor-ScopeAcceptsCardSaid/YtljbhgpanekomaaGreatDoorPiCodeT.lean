import Derived.Test.YtljbhgpanekomaaGreatDoorPiOrd2
import Derived.RangeFuncRecord
set_option linter.unusedSimpArgs false
set_option linter.unusedVariables false
set_option linter.unusedSectionVars false
namespace PI
open Go Go.RowKit
def PExit.plain:PExit→Bool
 | .after _ _ _=>false
 | _=>true
def Clo (N:Nm) (w':World) (G':GS) (kd:Nat) (caps:List PV):Prop:=
 ∃ (d : Deferred) (ds : List Deferred) (vals : Array Value), G'.df = d :: ds ∧ d = { target := .fn (.func (N.fn kd)) vals, args := #[] } ∧ vals.size = caps.length ∧
   ∀(i:Nat) (v:Value) (p:PV),vals[i]? = some v→caps[i]? = some p→VR N w' G'.fix G'.heap v p
def yB (N:Nm) (w':World) (G':GS):PExit→Exit→Prop
 | .normal,e=>e = .normal
 | .exit id,e=>e = .exit id
 | .ret,e=>e = .ret
 | .boom p,e=>∃v,e = .panic [{ v,recovered:=false }]∧VR N w' G'.fix G'.heap v p
 | .after kd caps none,e=>(e = .normal∨e = .ret)∧Clo N w' G' kd caps
 | .after kd caps (some p),e=>(∃v,e = .panic [{ v,recovered:=false }]∧VR N w' G'.fix G'.heap v p)∧Clo N w' G' kd caps
def DfR (p:PC) (x:PExit) (w:World) (G:GS) (w':World) (G':GS):Prop:=
 match x with
 | .after _ _ _=>p.NR=true→∃d,G'.df=d::G.df
 | _=>∃ms,G'.df=ms++G.df∧Marks w w' G' ms∧(p.NR=true→ms=[])
def xD:Code→List (Array Tmp×Code×Code)
 | .seq a b | .cond _ a b=>xD a++xD b
 | .block _ c | .loop c=>xD c
 | .rangeFunc _ ps a b=>[(ps,a,b)]
 | _=>[]
def LpOK (E:Env) (N:Nm) (nt:Nat) (fid:FuncId) (c:Code):Prop:=
 ∀ps kb vars,(ps,kb,vars)∈E.lps→∀x∈xD c,x.1=ps→N.yl kb=some ⟨fid,ps,x.2.1,x.2.2,vars,nt⟩
theorem LpOK.sub {E:Env} {N:Nm} {nt:Nat} {fid:FuncId} {c c':Code} (h:LpOK E N nt fid c) (hs:∀x∈xD c',x∈xD c):LpOK E N nt fid c':=λps kb vars hl x hx=>h ps kb vars hl x (hs x hx)
theorem Ext.size_le {w w':World} {G G':GS} (h:ExtD w G w' G'):w.heap.size≤w'.heap.size:=Ext.size h
theorem DfR.plain {p:PC} {x:PExit} {w w':World} {G G':GS} (h:G'.df=G.df) (hx:∀kd caps v,x≠.after kd caps v):DfR p x w G w' G':=by
 unfold DfR
 cases x with
 | after kd caps v=>exact absurd rfl (hx kd caps v)
 | _=>exact⟨[],by simpa using h,Marks.nil _ _ _,λ_=>rfl⟩
theorem DfR.trans {p q s:PC} {x:PExit} {w w1 w2:World} {G G1 G2:GS} (e1:ExtD w G w1 G1) (h1:DfR p .normal w G w1 G1) (e2:ExtD w1 G1 w2 G2) (h2:DfR q x w1 G1 w2 G2) (hs:s.NR=true→p.NR=true∧q.NR=true):DfR s x w G w2 G2:=by
 obtain⟨ms,a1,a2,a3⟩:=h1
 have marks:∀ms2,G2.df=ms2++G1.df→Marks w1 w2 G2 ms2→(q.NR=true→ms2=[])→∃ms,G2.df=ms++G.df∧Marks w w2 G2 ms∧(s.NR=true→ms=[]):=by
  intro ms2 b1 b2 b3
  exact⟨ms2++ms,by rw[b1,a1]; simp,Marks.join (Ext.size_le e1) a2 e2 b2,λh=>by rw[b3 (hs h).2,a3 (hs h).1]; rfl⟩
 unfold DfR at h2 ⊢
 cases x with
 | after kd caps v =>
   intro h
   obtain⟨d,hd⟩:=h2 (hs h).2
   exact⟨d,by rw[hd,a1,a3 (hs h).1]; rfl⟩
 | normal=>obtain⟨ms2,b1,b2,b3⟩:=h2; exact marks ms2 b1 b2 b3
 | ret=>obtain⟨ms2,b1,b2,b3⟩:=h2; exact marks ms2 b1 b2 b3
 | exit id=>obtain⟨ms2,b1,b2,b3⟩:=h2; exact marks ms2 b1 b2 b3
 | boom v=>obtain⟨ms2,b1,b2,b3⟩:=h2; exact marks ms2 b1 b2 b3
theorem DfR.weak {p s:PC} {x:PExit} {w w1 w2:World} {G G1 G2:GS} (e1:ExtD w G w1 G1) (h1:G1.df=G.df) (e2:ExtD w1 G1 w2 G2) (h2:DfR p x w1 G1 w2 G2) (hs:s.NR=true→p.NR=true):DfR s x w G w2 G2:=
 DfR.trans (p := .skip) e1 (DfR.plain h1 (by simp)) e2 h2 (λh=>⟨rfl,hs h⟩)
theorem AX {K:Act→World→Prop} {Q:Exit→Act→World→Prop} (h:¬LetsOut Q):¬LetsOut (Exit.then K Q):=fun⟨a,w,hq⟩=>h ⟨a,w,hq⟩
theorem Hw {id:Nat} {Q:Exit→Act→World→Prop} (h:¬LetsOut Q):¬LetsOut (Exit.inBlock id Q):=fun⟨a,w,hq⟩=>h ⟨a,w,hq⟩
theorem Bi {L:Nat→Option PFunc}:∀{n:Nat} {p:PC} {st st':St} {kd:Nat} {cs:List PV} {v:Option PV},p.RO=true→vY L n p st=some (.after kd cs v,st')→False
 | 0,p,st,st',kd,cs,v,_,h=>by simp[vY] at h
 | n + 1, p, st, st', kd, cs, v, hr, h => by
   rw[vY.eq_def] at h
   cases p with
   | rangeF x kb caps=>simp[PC.RO] at hr
   | guarded k2 caps c=>simp[PC.RO] at hr
   | round a b=>simp at h
   | skip=>simp at h
   | exit id=>simp at h
   | ret=>simp at h
   | region ops=>simp at h
   | raise ops t x =>
     simp only at h
     split at h
     ·rename_i st1 _
      cases hx:rd st1 x with
      | none=>rw[hx] at h; simp at h
      | some p=>rw[hx] at h; simp at h
     ·simp at h
   | bregion ops=>simp only at h; split at h<;>simp at h
   | branch ops x a b =>
     simp only[PC.RO,am] at hr
     simp only at h
     split at h
     ·split at h
      ·rename_i t _
       cases t
       ·exact Bi hr.2 h
       ·exact Bi hr.1 h
      ·simp at h
     ·simp at h
   | bbranch ops x a b =>
     simp only[PC.RO,am] at hr
     simp only at h
     split at h
     ·split at h
      ·rename_i t _
       cases t
       ·exact Bi hr.2 h
       ·exact Bi hr.1 h
      ·simp at h
     ·simp at h
     ·simp at h
   | seq a b =>
     simp only[PC.RO,am] at hr
     simp only at h
     split at h
     ·exact Bi hr.2 h
     ·simp at h
     ·exact Bi hr.1 h
   | block id c =>
     simp only[PC.RO] at hr
     simp only at h
     split at h
     ·split at h<;>simp at h
     ·simp at h
     ·exact Bi hr h
   | loop c =>
     have eU:=hr
     simp only[PC.RO] at hr
     simp only at h
     split at h
     ·exact Bi eU h
     ·simp at h
     ·exact Bi hr h
section
variable {E:Env} {N:Nm} {vs:List Tmp} {P:Program} {nt:Nat} {L:Nat→Option PFunc}
def KQ (N:Nm) (vs:List Tmp) (nt:Nat) (p:PC) (x:PExit) (st':St) (w:World) (G:GS) (Q:Exit→Act→World→Prop):Prop:=
 ∀a' w' G' e,yB N w' G' x e→BI N w' G' st' a' vs nt→ExtD w G w' G'→DfR p x w G w' G'→Q e a' w'
theorem FD {K:Act→World→Prop} {Q:Exit→Act→World→Prop} {p:PC} {x:PExit} {st':St} {w:World} {G:GS} (hx:x≠.normal) (ha:∀kd caps v,x≠.after kd caps v) (h:KQ N vs nt p x st' w G Q):KQ N vs nt p x st' w G (Exit.then K Q):=by
 intro a' w' G' e he hb cJ hd
 have:=h a' w' G' e he hb cJ hd
 cases x with
 | normal=>exact absurd rfl hx
 | after kd caps v=>exact absurd rfl (ha kd caps v)
 | exit id=>simp only[yB] at he; subst he; exact this
 | ret=>simp only[yB] at he; subst he; exact this
 | boom v=>obtain⟨u,rfl,_⟩:=he; exact this
structure Runs (N:Nm) (P:Program) (L:Nat→Option PFunc) (n:Nat):Prop where
 call:CallOK N P (xx (vY L n) L)
 out:C9 N P (xK (vY L n) L)
 round:D9 N P (xK (vY L n) L)
 yl:∀k,B1 L k=true→N.yl k=none
theorem Cy {n:Nat} {k:Nat} {args:List PV} {h:List PObj} {x} (hc:xx (vY L n) L k args h=some x):∃f,L k=some f:=by
 unfold xx at hc
 split at hc
 ·simp at hc
 ·rename_i f hf; exact⟨f,hf⟩
theorem Da {n:Nat} {k:Nat} {args:List PV} {h:List PObj} {x} (hc:xK (vY L n) L k args h=some x):∃f,L k=some f:=by
 unfold xK at hc
 split at hc
 ·simp at hc
 ·rename_i f hf; exact⟨f,hf⟩
theorem BL (hF:x7 N P L) (hE:EnvOk E N) (hP:E.P=P) (dl:P.follows .mixedOrders=true) (dj:vs.Nodup) {fid:FuncId} {rd':Option Nat}:
  ∀ (n : Nat), (∀ m, m < n → Runs N P L m) → ∀ {c : Code} {p : PC} {x : PExit} {st st' : St} {w : World} {G : GS} {a : Act} {Q : Exit → Act → World → Prop}, Cmp E nt vs c p → vY L n p st = some (x, st') → BI N w G st a vs nt → LpOK E N nt fid c →
    (rd'=none∨p.RO=true)→¬LetsOut Q→KQ N vs nt p x st' w G Q→wpN rd' fid P c Q a w
 | 0,_,c,p,x,st,st',w,G,a,Q,_,h,_,_,_,_,_=>by simp[vY] at h
 | n + 1, cW, c, p, x, st, st', w, G, a, Q, hc, h, hb, hY, hR, hQ, hk => by
   have cM:=cW n (by omega)
   have branch:∀{m:Nat},m≤n→∀{id:Nat} {ops:Array Oper} {d:Bool} {pos:List PO} {cc:Operand} {px:PX} {x1 y1:Code} {p1 p2:PC} {Q:Exit→Act→World→Prop} {x:PExit} {st':St},AW E nt vs ops d=some pos→cx E vs ops.toList cc=some px→Cmp E nt vs x1 p1→Cmp E nt vs y1 p2 →
     LpOK E N nt fid x1→LpOK E N nt fid y1→(rd'=none∨(p1.RO=true∧p2.RO=true))→¬LetsOut Q →
     vY L (m+1) (.branch pos px p1 p2) st=some (x,st')→KQ N vs nt (.branch pos px p1 p2) x st' w G Q→wpN rd' fid P (.region id ops d) (Exit.then (wpN rd' fid P (.cond cc x1 y1) Q) Q) a w:=by
    intro m hm id ops d pos cc px x1 y1 p1 p2 Q x st' fS eB hx hy p9 qd hR hQ h hk
    have ih := @BL hF hE hP dl dj fid rd' m (λm' ky=>cW m' (by omega))
    have cM:=cW m (by omega)
    simp only[vY] at h
    split at h
    ·rename_i st1 d7
     split at h
     ·rename_i t ht
      refine B9 (KB hF hE hP dl dj cM.call (λ_ _ _ _=>Cy) fS d7 hb (AX hQ) ?_)
      intro a' w' G' hf he cQ
      have eu:=(wB hE eB hf ht).1
      have eJ:a'.eval cc = .bool t:=by generalize a'.eval cc=z at eu; cases eu; rfl
      have cX:=FI.finish (nt:=nt) hf cQ
      refine Hx eJ ?_
      have knext:∀(pq:PC),(pq=p1∨pq=p2)→KQ N vs nt pq x st' w' G' Q:=by
       intro pq nu a2 w2 G2 e2 h1 h2 h3 h4
       refine hk a2 w2 G2 e2 h1 h2 (ExtD.trans (.of he) h3) (DfR.weak (.of he) he.df h3 h4 ?_)
       intro hn
       simp only[PC.NR,am] at hn
       rcases nu with rfl|rfl
       ·exact hn.1
       ·exact hn.2
      cases t with
      | true=>exact ih hx (by simpa using h) cX p9 (hR.imp (λh=>h) (·.1)) hQ (knext _ (.inl rfl))
      | false=>exact ih hy (by simpa using h) cX qd (hR.imp (λh=>h) (·.2)) hQ (knext _ (.inr rfl))
     ·simp at h
    ·simp at h
   have bbranch:∀{m:Nat},m≤n→∀{id:Nat} {ops:Array Oper} {d:Bool} {pos:List PO} {cc:Operand} {px:PX} {x1 y1:Code} {p1 p2:PC} {Q:Exit→Act→World→Prop} {x:PExit} {st':St},B7 E nt vs ops d=some pos→cx E vs ops.toList cc=some px→Cmp E nt vs x1 p1→Cmp E nt vs y1 p2 →
     LpOK E N nt fid x1→LpOK E N nt fid y1→(rd'=none∨(p1.RO=true∧p2.RO=true))→¬LetsOut Q →
     vY L (m+1) (.bbranch pos px p1 p2) st=some (x,st')→KQ N vs nt (.bbranch pos px p1 p2) x st' w G Q→wpN rd' fid P (.region id ops d) (Exit.then (wpN rd' fid P (.cond cc x1 y1) Q) Q) a w:=by
    intro m hm id ops d pos cc px x1 y1 p1 p2 Q x st' fS eB hx hy p9 qd hR hQ h hk
    have ih := @BL hF hE hP dl dj fid rd' m (λm' ky=>cW m' (by omega))
    have cM:=cW m (by omega)
    simp only[vY] at h
    split at h
    ·rename_i st1 d7
     split at h
     ·rename_i t ht
      refine B9 (FB (res:=none) hF hE hP dl dj cM.call cM.out cM.round (λ_ _ _ _=>Cy) (λ_ _ _ _=>Da) fS d7 hb (AX hQ) ?_ (λp e=>by simp at e))
      intro _ a' w' G' hf he cQ
      have eu:=(wB hE eB hf ht).1
      have eJ:a'.eval cc = .bool t:=by generalize a'.eval cc=z at eu; cases eu; rfl
      have cX:=FI.finish (nt:=nt) hf cQ
      refine Hx eJ ?_
      have knext:∀(pq:PC),(pq=p1∨pq=p2)→KQ N vs nt pq x st' w' G' Q:=by
       intro pq nu a2 w2 G2 e2 h1 h2 h3 h4
       refine hk a2 w2 G2 e2 h1 h2 (ExtD.trans (.of he) h3) (DfR.weak (.of he) he.df h3 h4 ?_)
       intro hn
       simp only[PC.NR,am] at hn
       rcases nu with rfl|rfl
       ·exact hn.1
       ·exact hn.2
      cases t with
      | true=>exact ih hx (by simpa using h) cX p9 (hR.imp (λh=>h) (·.1)) hQ (knext _ (.inl rfl))
      | false=>exact ih hy (by simpa using h) cX qd (hR.imp (λh=>h) (·.2)) hQ (knext _ (.inr rfl))
     ·simp at h
    ·rename_i v st1 d7
     simp only[aa,ac] at h
     obtain⟨rfl,rfl⟩:=h
     refine B9 (FB (res:=some v) hF hE hP dl dj cM.call cM.out cM.round (λ_ _ _ _=>Cy) (λ_ _ _ _=>Da) fS d7 hb (AX hQ) (λe=>by simp at e) ?_)
     rintro p e a' w' G' u hu he cX
     cases e
     exact hk a' w' G' _ ⟨u,rfl,hu⟩ cX (.of he) (DfR.plain he.df (by simp))
    ·simp at h
   have nrB:∀{pos:List PO} {px:PX} {p1 p2:PC},(rd'=none∨(PC.branch pos px p1 p2).RO=true)→(rd'=none∨(p1.RO=true∧p2.RO=true)):=by
    intro pos px p1 p2 h
    exact h.imp id (λh=>by simpa[PC.RO] using h)
   have nrBB:∀{pos:List PO} {px:PX} {p1 p2:PC},(rd'=none∨(PC.bbranch pos px p1 p2).RO=true)→(rd'=none∨(p1.RO=true∧p2.RO=true)):=by
    intro pos px p1 p2 h
    exact h.imp id (λh=>by simpa[PC.RO] using h)
   have ih := @BL hF hE hP dl dj fid rd' n (λm hm=>cW m (by omega))
   have up:∀{id:Nat} {ops:Array Oper} {d:Bool} {cc:Operand} {x1 y1 r:Code} {a:Act} {w:World},wpN rd' fid P (.region id ops d) (Exit.then (wpN rd' fid P (.cond cc x1 y1) (Exit.then (wpN rd' fid P r Q) Q)) (Exit.then (wpN rd' fid P r Q) Q)) a w→wpN rd' fid P (.region id ops d) (Exit.then (wpN rd' fid P (.seq (.cond cc x1 y1) r) Q) Q) a w:=by
    intro id ops d cc x1 y1 r a w hw
    refine c2T hw ?_
    intro e a' w' hq
    cases e<;>simp only[Exit.then] at hq ⊢
    ·exact Cz hq
    all_goals exact hq
   cases hc with
   | stuck=>simp[zN,vY,x6,yc,rd,raw,cp] at h
   | skip =>
     simp only[vY,aa,ac] at h
     obtain⟨rfl,rfl⟩:=h
     exact c2U (hk _ _ G .normal rfl hb (ExtD.refl _ _) (DfR.plain rfl (by simp)))
   | exit id =>
     simp only[vY,aa,ac] at h
     obtain⟨rfl,rfl⟩:=h
     exact KF (hk _ _ G (.exit id) rfl hb (ExtD.refl _ _) (DfR.plain rfl (by simp)))
   | ret =>
     simp only[vY,aa,ac] at h
     obtain⟨rfl,rfl⟩:=h
     exact KG (hk _ _ G .ret rfl hb (ExtD.refl _ _) (DfR.plain rfl (by simp)))
   | region id ops d pos fS =>
     simp only[vY,ab,ac] at h
     obtain⟨st1,d7,rfl,rfl⟩:=h
     exact B9 (KB hF hE hP dl dj cM.call (λ_ _ _ _=>Cy) fS d7 hb hQ (λa' w' G' hf he cQ=>hk a' w' G' .normal rfl (FI.finish hf cQ) (.of he) (DfR.plain he.df (by simp))))
   | bregion id ops d pos fS =>
     simp only[vY] at h
     split at h
     ·rename_i st1 d7
      simp only[aa,ac] at h
      obtain⟨rfl,rfl⟩:=h
      refine B9 (FB (res:=none) hF hE hP dl dj cM.call cM.out cM.round (λ_ _ _ _=>Cy) (λ_ _ _ _=>Da) fS d7 hb hQ ?_ (λp e=>by simp at e))
      intro _ a' w' G' hf he cQ
      exact hk a' w' G' .normal rfl (FI.finish hf cQ) (.of he) (DfR.plain he.df (by simp))
     ·rename_i v st1 d7
      simp only[aa,ac] at h
      obtain⟨rfl,rfl⟩:=h
      refine B9 (FB (res:=some v) hF hE hP dl dj cM.call cM.out cM.round (λ_ _ _ _=>Cy) (λ_ _ _ _=>Da) fS d7 hb hQ (λe=>by simp at e) ?_)
      rintro p e a' w' G' u hu he cX
      cases e
      exact hk a' w' G' _ ⟨u,rfl,hu⟩ cX (.of he) (DfR.plain he.df (by simp))
     ·simp at h
   | raise id ops pos t px fS =>
     simp only[vY] at h
     split at h
     ·rename_i st1 d7
      simp only[ab,ac] at h
      obtain⟨u,hu,rfl,rfl⟩:=h
      refine B9 (b6u hF hE hP dj cM.call (λ_ _ _ _=>Cy) fS d7 hu hb hQ ?_)
      intro a' w' G' v hv he cX
      exact hk a' w' G' _ ⟨v,rfl,hv⟩ cX (.of he) (DfR.plain he.df (by simp))
     ·simp at h
   | branch id ops d pos cc px x1 y1 p1 p2 fS eB hx hy =>
     exact Cz (branch (ao _) fS eB hx hy (hY.sub (λz hz=>by simp[xD,hz])) (hY.sub (λz hz=>by simp[xD,hz])) (nrB hR) hQ h hk)
   | bbranch id ops d pos cc px x1 y1 p1 p2 fS eB hx hy =>
     exact Cz (bbranch (ao _) fS eB hx hy (hY.sub (λz hz=>by simp[xD,hz])) (hY.sub (λz hz=>by simp[xD,hz])) (nrBB hR) hQ h hk)
   | branchSeq id ops d pos cc px x1 y1 r p1 p2 pr fS eB hx hy hr =>
     simp only[vY] at h
     refine Cz ?_
     have gN:rd'=none∨(PC.branch pos px p1 p2).RO=true:=hR.imp (λh=>h) (λh=>by simp only[PC.RO,am] at h ⊢; exact h.1)
     have fO:rd'=none∨pr.RO=true:=hR.imp (λh=>h) (λh=>by simp only[PC.RO,am] at h; exact h.2)
     split at h
     ·rename_i st1 d7
      cases n with
      | zero=>simp[vY] at d7
      | succ m =>
        refine up (branch (Nat.le_succ m) fS eB hx hy (hY.sub (λz hz=>by simp[xD,hz])) (hY.sub (λz hz=>by simp[xD,hz])) (nrB gN) (AX hQ) d7 ?_)
        intro a' w' G' e he cX cJ hd
        simp only[yB] at he
        subst he
        refine ih hr h cX (hY.sub (λz hz=>by simp[xD,hz])) fO hQ ?_
        intro a2 w2 G2 e2 h1 h2 h3 h4
        exact hk a2 w2 G2 e2 h1 h2 (cJ.trans h3) (DfR.trans cJ hd h3 h4 (λhn=>by simpa only[PC.NR,am] using hn))
     ·simp at h
     ·rename_i c9 fj
      cases n with
      | zero=>simp[vY] at h
      | succ m =>
        refine up (branch (Nat.le_succ m) fS eB hx hy (hY.sub (λz hz=>by simp[xD,hz])) (hY.sub (λz hz=>by simp[xD,hz])) (nrB gN) (AX hQ) h ?_)
        refine FD (λe=>c9 st' (by rw[h,e])) (λkd caps v e=>fj kd caps v st' (by rw[h,e])) ?_
        intro a2 w2 G2 e2 h1 h2 h3 h4
        exact hk a2 w2 G2 e2 h1 h2 h3 (DfR.weak (ExtD.refl _ _) rfl h3 h4 (λhn=>by simp only[PC.NR,am] at hn ⊢; exact hn.1))
   | bbranchSeq id ops d pos cc px x1 y1 r p1 p2 pr fS eB hx hy hr =>
     simp only[vY] at h
     refine Cz ?_
     have gN:rd'=none∨(PC.bbranch pos px p1 p2).RO=true:=hR.imp (λh=>h) (λh=>by simp only[PC.RO,am] at h ⊢; exact h.1)
     have fO:rd'=none∨pr.RO=true:=hR.imp (λh=>h) (λh=>by simp only[PC.RO,am] at h; exact h.2)
     split at h
     ·rename_i st1 d7
      cases n with
      | zero=>simp[vY] at d7
      | succ m =>
        refine up (bbranch (Nat.le_succ m) fS eB hx hy (hY.sub (λz hz=>by simp[xD,hz])) (hY.sub (λz hz=>by simp[xD,hz])) (nrBB gN) (AX hQ) d7 ?_)
        intro a' w' G' e he cX cJ hd
        simp only[yB] at he
        subst he
        refine ih hr h cX (hY.sub (λz hz=>by simp[xD,hz])) fO hQ ?_
        intro a2 w2 G2 e2 h1 h2 h3 h4
        exact hk a2 w2 G2 e2 h1 h2 (cJ.trans h3) (DfR.trans cJ hd h3 h4 (λhn=>by simpa only[PC.NR,am] using hn))
     ·simp at h
     ·rename_i c9 fj
      cases n with
      | zero=>simp[vY] at h
      | succ m =>
        refine up (bbranch (Nat.le_succ m) fS eB hx hy (hY.sub (λz hz=>by simp[xD,hz])) (hY.sub (λz hz=>by simp[xD,hz])) (nrBB gN) (AX hQ) h ?_)
        refine FD (λe=>c9 st' (by rw[h,e])) (λkd caps v e=>fj kd caps v st' (by rw[h,e])) ?_
        intro a2 w2 G2 e2 h1 h2 h3 h4
        exact hk a2 w2 G2 e2 h1 h2 h3 (DfR.weak (ExtD.refl _ _) rfl h3 h4 (λhn=>by simp only[PC.NR,am] at hn ⊢; exact hn.1))
   | seq x1 y1 p1 q1 hx hy =>
     simp only[vY] at h
     refine Cz ?_
     have gN:rd'=none∨p1.RO=true:=hR.imp (λh=>h) (λh=>by simp only[PC.RO,am] at h; exact h.1)
     have fO:rd'=none∨q1.RO=true:=hR.imp (λh=>h) (λh=>by simp only[PC.RO,am] at h; exact h.2)
     split at h
     ·rename_i st1 d7
      refine ih hx d7 hb (hY.sub (λz hz=>by simp[xD,hz])) gN (AX hQ) ?_
      intro a' w' G' e he cX cJ hd
      simp only[yB] at he
      subst he
      refine ih hy h cX (hY.sub (λz hz=>by simp[xD,hz])) fO hQ ?_
      intro a2 w2 G2 e2 h1 h2 h3 h4
      exact hk a2 w2 G2 e2 h1 h2 (cJ.trans h3) (DfR.trans cJ hd h3 h4 (λhn=>by simpa only[PC.NR,am] using hn))
     ·simp at h
     ·rename_i c9 fj
      refine ih hx h hb (hY.sub (λz hz=>by simp[xD,hz])) gN (AX hQ) ?_
      refine FD (λe=>c9 st' (by rw[h,e])) (λkd caps v e=>fj kd caps v st' (by rw[h,e])) ?_
      intro a2 w2 G2 e2 h1 h2 h3 h4
      exact hk a2 w2 G2 e2 h1 h2 h3 (DfR.weak (ExtD.refl _ _) rfl h3 h4 (λhn=>by simp only[PC.NR,am] at hn ⊢; exact hn.1))
   | cond cc px x1 y1 p1 q1 eB hx hy =>
     simp only[vY,x6,yc] at h
     split at h
     ·rename_i t ht
      have hf:=FI.begin (lm:=vS vs []) hb (by intro j t hj; simp[vS] at hj) 0
      have eu:=(wB hE eB hf ht).1
      have eJ:a.eval cc = .bool t:=by generalize a.eval cc=z at eu; cases eu; rfl
      have cX:=FI.finish (nt:=nt) hf hb.size
      refine Hx eJ ?_
      have knext:∀(pq:PC),(pq=p1∨pq=q1)→KQ N vs nt pq x st' w G Q:=by
       intro pq nu a2 w2 G2 e2 h1 h2 h3 h4
       refine hk a2 w2 G2 e2 h1 h2 h3 (DfR.weak (ExtD.refl _ _) rfl h3 h4 ?_)
       intro hn
       simp only[PC.NR,am] at hn
       rcases nu with rfl|rfl
       ·exact hn.1
       ·exact hn.2
      cases t with
      | true=>exact ih hx (by simpa using h) cX (hY.sub (c':=x1) (λz hz=>by simp[xD,hz])) ((nrB hR).imp (λh=>h) (·.1)) hQ (knext _ (.inl rfl))
      | false=>exact ih hy (by simpa using h) cX (hY.sub (c':=y1) (λz hz=>by simp[xD,hz])) ((nrB hR).imp (λh=>h) (·.2)) hQ (knext _ (.inr rfl))
     ·simp at h
   | block id x1 p1 hx =>
     simp only[vY] at h
     refine c01 ?_
     have gN:rd'=none∨p1.RO=true:=hR
     have mR:LpOK E N nt fid x1:=hY
     split at h
     ·rename_i i st1 d7
      split at h
      ·rename_i hi
       subst hi
       simp only[aa,ac] at h
       obtain⟨rfl,rfl⟩:=h
       refine ih hx d7 hb mR gN (Hw hQ) ?_
       intro a' w' G' e he cX cJ hd
       simp only[yB] at he
       subst he
       simp only[Exit.inBlock,if_true]
       exact hk a' w' G' .normal rfl cX cJ hd
      ·rename_i hi
       simp only[aa,ac] at h
       obtain⟨rfl,rfl⟩:=h
       refine ih hx d7 hb mR gN (Hw hQ) ?_
       intro a' w' G' e he cX cJ hd
       simp only[yB] at he
       subst he
       simp only[Exit.inBlock,ae hi]
       exact hk a' w' G' _ rfl cX cJ hd
     ·simp at h
     ·rename_i c9 fj
      refine ih hx h hb mR gN (Hw hQ) ?_
      intro a' w' G' e he cX cJ hd
      have:=hk a' w' G' e he cX cJ hd
      cases x with
      | normal=>simp only[yB] at he; subst he; exact this
      | exit i=>exact absurd h (λe=>c9 _ _ e)
      | ret=>simp only[yB] at he; subst he; exact this
      | boom v=>obtain⟨u,rfl,_⟩:=he; exact this
      | after kd caps v=>exact absurd h (λe=>fj _ _ _ _ e)
   | loop x1 p1 hx =>
     refine b2W (n+1) ?_
     have gN:rd'=none∨p1.RO=true:=hR
     have mR:LpOK E N nt fid x1:=hY
     have key:∀(m:Nat),m≤n+1→∀{st:St} {w:World} {G:GS} {a:Act},vY L m (.loop p1) st=some (x,st')→BI N w G st a vs nt→KQ N vs nt (.loop p1) x st' w G Q→Db rd' fid P x1 Q m a w:=by
      intro m
      induction m with
      | zero=>intro _ st w G a h; simp[vY] at h
      | succ m ihm =>
        intro hm st w G a h hb hk
        rw[b6q]
        have ih' := @BL hF hE hP dl dj fid rd' m (λm' ky=>cW m' (by omega))
        simp only[vY] at h
        split at h
        ·rename_i st1 d7
         refine ih' hx d7 hb mR gN (AX hQ) ?_
         intro a' w' G' e he cX cJ hd
         simp only[yB] at he
         subst he
         refine ihm (by omega) h cX ?_
         intro a2 w2 G2 e2 h1 h2 h3 h4
         exact hk a2 w2 G2 e2 h1 h2 (cJ.trans h3) (DfR.trans cJ hd h3 h4 (λhn=>⟨hn,hn⟩))
        ·simp at h
        ·rename_i c9 fj
         refine ih' hx h hb mR gN (AX hQ) ?_
         refine FD (λe=>c9 st' (by rw[h,e])) (λkd caps v e=>fj kd caps v st' (by rw[h,e])) ?_
         intro a2 w2 G2 e2 h1 h2 h3 h4
         exact hk a2 w2 G2 e2 h1 h2 h3 h4
     exact key (n+1) (ao _) h hb hk
   | rangeF g ps as body px kb vars caps hg hl hv =>
     simp only[vY] at h
     split at h
     ·rename_i k first captured cs iS jM
      split at h
      ·simp at h
      ·rename_i gO
       have dT:rd'=none:=by rcases hR with h|h; exact h; simp[PC.RO] at h
       subst dT
       have qe:vS vs []=(λ_=>none):=by funext j; simp[vS]
       have hf:FI N w G st a vs (vS vs []):=by rw[qe]; exact hb.fi
       have sC:=(wB hE hg hf iS).1
       obtain⟨dD,lU⟩:=AD hE hf hv jM
       have iT:N.yl k=none:=cM.yl k (by simpa using gO)
       generalize tR:a.eval g=gv at sC
       cases sC with
       | yield _ m l y tmps caps' hy _ _ _ _ _=>rw[iT] at hy; simp at hy
       | func _ fs cs' _ _ hy e1 e2 kM dY =>
         have el:=run_enterLoop_outer (P:=P) (w:=w) fid a.tmps ps as body
         have x1:=b9A hb.fi (.deferred (some []))
         have fG:(w.alloc (.deferred (some []))).heap.size=w.heap.size+1:=by simp
         have x2:=c36 x1.2 (ob := .loop true) (mob := .loop { state := .ready,pending:=none,fn:=fid,tmps:=a.tmps,params:=ps,assign:=as,body:=body,defers:=w.heap.size }) (by
          rintro G' rfl _
          refine⟨?_,_,AE,rfl,by simp⟩
          intro o fl
          have:=x1.2.fixlt _ _ fl
          omega)
         rw[fG] at x2
         generalize jN:(w.alloc (.deferred (some []))).alloc (.loop { state := .ready,pending:=none,fn:=fid,tmps:=a.tmps,params:=ps,assign:=as,body:=body,defers:=w.heap.size })=w1 at el x2
         have d8:w1.heap[w.heap.size+1]? = some (.loop { state := .ready,pending:=none,fn:=fid,tmps:=a.tmps,params:=ps,assign:=as,body:=body,defers:=w.heap.size }):=by
          rw[← jN,← fG]; exact AE
         have jB:w1.heap[w.heap.size]? = some (.deferred (some [])):=by
          rw[← jN,yr (by rw[fG]; omega)]; exact AE
         have d7:w1.heap.size=w.heap.size+2:=by rw[← jN]; simp
         have dP:Ext w G w1 (G.more (w.heap.size+1) st.heap.length):=x1.1.trans x2.1
         have f2:=x2.2
         generalize sD:G.more (w.heap.size+1) st.heap.length=G1 at dP f2
         have dC:G1.heap st.heap.length=some (w.heap.size+1):=by rw[← sD]; simp[GS.more]
         have nx:G1.ow w.heap.size=none:=by
          rw[← sD]
          simp only[GS.more]
          rw[ae (by omega)]
          cases hx:G.ow w.heap.size with
          | none=>rfl
          | some kk=>have:=hb.fi.owlt _ _ hx; omega
         have qf:VR N w1 G1.fix G1.heap (.func (.yield (w.heap.size+1)) #[] #[]) (.func kb (.ptr st.heap.length 0::cs) []):=by
          refine .yield kb st.heap.length (w.heap.size+1) ⟨fid,ps,as,body,vars,nt⟩ a.tmps cs (hY ps kb vars hl (ps,as,body) (by simp[xD]) rfl) dC (by simp[yd,d8]) (by simpa using dD.symm) hb.size ?_
          intro i t p ht hp
          have:=(lU i (.tmp t) p (by simpa using ht) hp).1
          exact VR.ext (by simpa[Act.eval] using this) dP
         have dp:(resolve a.eval (rangeCall g (w.heap.size+1)) 0).run P w1 = .ok { target := .fn (.func (N.fn k)) cs',args:=fs ++ #[.func (.yield (w.heap.size+1)) #[] #[]] } w1:=by
          have qg:a.eval (.const (.func (.yield (w.heap.size+1)) #[] #[])) = .func (.yield (w.heap.size+1)) #[] #[]:=rfl
          simp[resolve,rangeCall,tR,Deferred.ofValue,qg]
         obtain⟨pf,hL⟩:∃f,L k=some f:=by
          split at h
          ·exact Da (by assumption)
          ·exact Da (by assumption)
          ·simp at h
         have jg:(invoke (.fn (.func (N.fn k)) cs') (fs ++ #[.func (.yield (w.heap.size+1)) #[] #[]])).run P w1 = .ok (.enter (N.fn k) (fs ++ #[.func (.yield (w.heap.size+1)) #[] #[]]++cs')) w1:=by
          simp only[invoke]
          exact BM hF hL _ w1
         have dE:∀(i:Nat) (v:Value) (p:PV),(fs ++ #[.func (.yield (w.heap.size+1)) #[] #[]]++cs')[i]? = some v→(first ++ .func kb (.ptr st.heap.length 0::cs) []::captured)[i]? = some p→VR N w1 G1.fix G1.heap v p:=by
          intro i v p dJ hp
          by_cases hi:i<fs.size
          ·rw[bU,bk hi] at dJ
           rw[al (by omega)] at hp
           exact(kM i v p dJ hp).ext dP
          ·rw[bU,bV (by omega)] at dJ
           rw[ap (by omega),← e1] at hp
           cases hn:i - fs.size with
           | zero =>
             rw[hn] at dJ hp
             rw[bk (by simp)] at dJ
             simp at dJ hp
             subst dJ hp
             exact qf
           | succ m =>
             rw[hn] at dJ hp
             rw[bV (by simp)] at dJ
             simp at dJ hp
             exact(dY m v p dJ hp).ext dP
         have eP:(fs ++ #[Value.func (.yield (w.heap.size+1)) #[] #[]]++cs').size=(first++PV.func kb (.ptr st.heap.length 0::cs) []::captured).length:=by simp[e1,e2]; omega
         have marks:∀{w' w4:World} {G':GS} {e5:Ext w1 G1 w' G'} {G4:GS},w4.heap[w.heap.size]? = w'.heap[w.heap.size]?→G4.ow=G'.ow→Marks w w4 G4 [{ target := .collected w.heap.size,args := #[] }]:=by
          intro w' w4 G' e5 G4 tS tT
          refine⟨[w.heap.size],rfl,by simp,?_⟩
          intro b hb
          simp only[bg] at hb
          subst hb
          refine⟨ao _,?_,?_⟩
          ·rw[tS,e5.same _ (by omega) nx]; exact jB
          ·rw[tT]
           cases hx:G'.ow w.heap.size with
           | none=>rfl
           | some kk =>
             rcases e5.own w.heap.size (by rw[hx]; simp) with h|h
             ·omega
             ·exact absurd nx h
         have fin:∀{x':PExit} {j:Option Code} {ob:PObj} {u:PV} {h':List PObj},xK (vY L n) L k (first ++ .func kb (.ptr st.heap.length 0::cs) []::captured) (st.heap++[.loop true])=some (.val u,h') →
           KQ N vs nt (.rangeF px kb caps) x' { st with heap:=h'.set st.heap.length .gone } w G Q→((j=none∧x' = .normal)∨(j=some .ret∧x' = .ret)∨∃id,j=some (.exit id)∧x' = .exit id) →
           h'[st.heap.length]? = some ob→ob≠.gone→(∀(w':World) (G':GS) (b:Nat),ObjR N w' G' st.heap.length b ob→(∀o,¬G'.fix b o)∧∃r:Go.Loop,w'.heap[b]? = some (.loop r)∧r.pending=j∧r.state≠.busy) →
           wpN none fid P (.rangeFunc g ps as body) Q a w:=by
          intro x' j ob u h' cW hk hj iw pE dz
          refine KH el dp jg ((cM.out k _ _ _ _ cW iT w1 G1.callee _ (Dc f2) eP dE).mono ?_)
          rintro e w' ⟨G2,⟨v,rfl,cR⟩,he,dB⟩
          obtain⟨G',cJ,db,g1,g2⟩:=FE f2 he dB
          rcases db.heap.1 st.heap.length _ iw with mS|⟨b,k1,k2,k3⟩
          ·exact absurd mS pE
          obtain⟨kf,r,k3,k4,k5⟩:=dz _ _ _ k3
          have:b=w.heap.size+1:=by have:=cJ.heap _ _ dC; rw[k1] at this; simpa using this
          subst this
          have eV:=run_endLoop (P:=P) k3 k5
          have eV:=eV.trans (aD (λz=>Result.ok z _) k4)
          obtain⟨e6,tU⟩:=KI (ob' := .gone) (mob := .loop { r with state := .exhausted }) db k1 k2 kf (by simp[World.shape?,k3]) (by
           intro s hs
           have cO:w.heap.size+1<w'.heap.size:=(aX.1 k3).1
           simp only[yd,k3] at hs
           simpa[yd,aY,cO] using hs) (.inl rfl)
          refine⟨_,_,eV,?_⟩
          have dq:=(dP.trans cJ).trans e6
          have qh:=FI.setDf tU ([{ target := .collected w.heap.size,args := #[] }]++a.defers)
          have last:∀e2,yB N _ _ x' e2→Q e2 _ _:=λe2 ei=>hk { a with defers:=[{ target := .collected w.heap.size,args := #[] }]++a.defers } (w'.putObj (w.heap.size+1) (.loop { r with state := .exhausted })) { G' with df:=[{ target := .collected w.heap.size,args := #[] }]++a.defers } e2 ei ⟨qh,hb.size⟩ (Ext.setDf dq _) (by
           have hd:∃ms,([{ target := .collected w.heap.size,args := #[] }]++a.defers:List Deferred)=ms++G.df∧Marks w (w'.putObj (w.heap.size+1) (.loop { r with state := .exhausted })) { G' with df:=[{ target := .collected w.heap.size,args := #[] }]++a.defers } ms∧((PC.rangeF px kb caps).NR=true→ms=[]):=
            ⟨[{ target := .collected w.heap.size,args := #[] }],by simp[hb.fi.defers],marks (e5:=cJ) (w4:=w'.putObj (w.heap.size+1) (.loop { r with state := .exhausted })) (G4:={ G' with df:=[{ target := .collected w.heap.size,args := #[] }]++a.defers }) (by simp[World.putObj,aY]) rfl,by simp[PC.NR]⟩
           rcases hj with⟨_,rfl⟩|⟨_,rfl⟩|⟨id,_,rfl⟩<;>exact hd)
          rcases hj with⟨rfl,rfl⟩|⟨rfl,rfl⟩|⟨id,rfl,rfl⟩
          ·exact last _ rfl
          ·exact KG (last _ rfl)
          ·exact KF (last _ rfl)
         split at h
         ·rename_i u h' cW
          split at h
          ·rename_i iw
           simp only[aa,ac] at h
           obtain⟨rfl,rfl⟩:=h
           exact fin cW hk (.inl ⟨rfl,rfl⟩) iw (by simp) (λw' G' b ⟨kf,r,k3,k4,k5⟩=>⟨kf,r,k3,k4,by rw[k5]; simp⟩)
          ·rename_i id iw
           simp only[aa,ac] at h
           obtain⟨rfl,rfl⟩:=h
           exact fin cW hk (.inr (.inr ⟨id,rfl,rfl⟩)) iw (by simp) (λw' G' b ⟨kf,r,k3,k4,k5⟩=>⟨kf,r,k3,k4,by rw[k5]; simp⟩)
          ·rename_i iw
           simp only[aa,ac] at h
           obtain⟨rfl,rfl⟩:=h
           exact fin cW hk (.inr (.inl ⟨rfl,rfl⟩)) iw (by simp) (λw' G' b ⟨kf,r,k3,k4,k5⟩=>⟨kf,r,k3,k4,by rw[k5]; simp⟩)
          ·simp at h
         ·rename_i v h' cW
          simp only[aa,ac] at h
          obtain⟨rfl,rfl⟩:=h
          refine KH el dp jg ((cM.out k _ _ _ _ cW iT w1 G1.callee _ (Dc f2) eP dE).mono ?_)
          rintro e w' ⟨G2,⟨u,rfl,cR⟩,he,dB⟩
          obtain⟨G',cJ,db,g1,g2⟩:=FE f2 he dB
          have dq:=dP.trans cJ
          have qh:=FI.setDf db ([{ target := .collected w.heap.size,args := #[] }]++a.defers)
          refine hk _ _ _ _ ⟨u,rfl,by rw[← g1,← g2] at cR; exact cR⟩ ⟨qh,hb.size⟩ (Ext.setDf dq _) ⟨[{ target := .collected w.heap.size,args := #[] }],by simp[hb.fi.defers],marks (e5:=cJ) rfl rfl,by simp[PC.NR]⟩
         ·simp at h
     ·simp at h
   | guarded id ops kd caps y q hd hy =>
     simp only[vY] at h
     split at h
     ·simp at h
     ·rename_i gO
      have lu:q.NR=true:=by simpa using gO
      have dT:rd'=none:=by rcases hR with h|h; exact h; simp[PC.RO] at h
      subst dT
      split at h
      ·rename_i cs jM
       unfold Hp at hd
       split at hd
       ·rename_i d f first pcaps ty1 ps1 af1 d' args ts2 ty2 ps2 af2 ny
        split at hd
        ·rename_i gE
         obtain⟨rfl,mQ,da,qi,qj⟩:=gE
         simp only[af,ab,ac] at hd
         obtain⟨k0,lw,pcs,qk,rfl,rfl⟩:=hd
         have qe:vS vs []=(λ_=>none):=by funext j; simp[vS]
         have hf:FI N w G st a vs (vS vs []):=by rw[qe]; exact hb.fi
         obtain⟨dD,lU⟩:=AD hE hf qk jM
         obtain⟨ops⟩:=ops
         simp only at ny
         subst ny
         have nz:first = #[]:=by cases first; simpa using qi
         have nA:args = #[]:=by cases args; simpa using qj
         subst nz nA
         have ev:=hE.fn _ _ lw
         refine Cz (B9 (n:=0) (wpIn_region ?_))
         have jh:List.range (Array.mk [({ dst:=some d,op := .makeFunc (.func f) #[] pcaps,type:=ty1,pos:=ps1,after:=af1,guard:=none }:Oper),{ dst:=none,op := .defer { callee := .value (.tmp d),args := #[],argTypes:=ts2 },type:=ty2,pos:=ps2,after:=af2,guard:=none }]).size=[0,1]:=rfl
         rw[jh,wpOpsIn_cons]
         unfold wpOpIn
         simp only[bC,ci,Region.wanted,if_true]
         refine⟨λ_ _=>zO _,?_⟩
         rw[show (W none).round=none from rfl,Oper.semAt_none]
         have jO:(execOp a.eval ({ dst:=some d,op := .makeFunc (.func f) #[] pcaps,type:=ty1,pos:=ps1,after:=af1,guard:=none }:Oper)).run P w = .ok (.value (.func (.func f) #[] (pcaps.map a.eval))) w:=by
          simp[execOp,Instr.makeFunc]
         rw[jO,Oper.uponIn_value]
         rw[wpOpsIn_cons]
         unfold wpOpIn
         simp only[bC,cE,ci,Region.wanted,if_true]
         refine⟨λ_ _=>zO _,?_⟩
         rw[show (W none).round=none from rfl,Oper.semAt_none]
         have eu:(a.put (some d) (.func (.func f) #[] (pcaps.map a.eval))).eval (.tmp d) = .func (.func f) #[] (pcaps.map a.eval):=by
          have:d<a.tmps.size:=aN da hb.size
          simp[Act.eval,Act.put,aK,aY,this]
         have jL:(execOp (a.put (some d) (.func (.func f) #[] (pcaps.map a.eval))).eval ({ dst:=none,op := .defer { callee := .value (.tmp d),args := #[],argTypes:=ts2 },type:=ty2,pos:=ps2,after:=af2,guard:=none }:Oper)).run P w =
           .ok (.defer { target := .fn (.func f) (pcaps.map a.eval),args := #[] }) w:=by
          simp[execOp,resolve,eu,Deferred.ofValue]
         rw[jL,Oper.uponIn_defer]
         simp only[wpOpsIn]
         have b1:=hb.putOther mQ (.func (.func f) #[] (pcaps.map a.eval))
         generalize gE:({ target := .fn (.func f) (pcaps.map a.eval),args := #[] }:Deferred)=dd
         have b2:BI N w { G with df:=dd::a.defers } st { a.put (some d) (.func (.func f) #[] (pcaps.map a.eval)) with defers:=dd::a.defers } vs nt:=⟨FI.setDf b1.fi _,b1.size⟩
         have ix:∀(w':World) (G':GS),ExtD w { G with df:=dd::a.defers } w' G'→G'.df=dd::a.defers→Clo N w' G' k0 cs:=by
          intro w' G' cJ d9
          refine⟨dd,a.defers,pcaps.map a.eval,d9,by rw[← gE,ev],by simpa using dD,?_⟩
          intro i v p hv hp
          simp only[bK,ab] at hv
          obtain⟨x,hx,rfl⟩:=hv
          have qm:Ext w { G with df:=G'.df } w' G':=cJ
          exact VR.mono (lU i x p (by simpa using hx) hp).1 qm.fix qm.heap qm.shape
         have run:∀(x0:PExit) (st1:St),vY L n q st=some (x0,st1)→x0.plain=true→KQ N vs nt q x0 st1 w { G with df:=dd::a.defers } Q→wpN none fid P y Q { a.put (some d) (.func (.func f) #[] (pcaps.map a.eval)) with defers:=dd::a.defers } w:=by
          intro x0 st1 fv _ tV
          exact ih hy fv b2 (hY.sub (λz hz=>by simp[xD,hz])) (.inl rfl) hQ tV
         have dfs:∀{x0:PExit} {w':World} {G':GS},x0.plain=true→DfR q x0 w { G with df:=dd::a.defers } w' G'→G'.df=dd::a.defers:=by
          intro x0 w' G' fv hd
          have key:(∃ms,G'.df=ms++(dd::a.defers)∧Marks w w' G' ms∧(q.NR=true→ms=[]))→G'.df=dd::a.defers:=by
           rintro⟨ms,h1,_,h3⟩
           rw[h1,h3 lu]; rfl
          cases x0 with
          | after _ _ _=>simp[PExit.plain] at fv
          | normal=>exact key hd
          | exit _=>exact key hd
          | ret=>exact key hd
          | boom _=>exact key hd
         have qn:∀{w':World} {G':GS} {v:Option PV},G'.df=dd::a.defers→DfR (.guarded k0 pcs q) (.after k0 cs v) w G w' G':=λh _=>⟨dd,by rw[h,hb.fi.defers]⟩
         split at h
         ·rename_i st1 fv
          simp only[aa,ac] at h
          obtain⟨rfl,rfl⟩:=h
          refine run .normal _ fv rfl ?_
          intro a' w' G' e he cX cJ d9
          have gQ:=dfs rfl d9
          exact hk a' w' G' e ⟨.inl he,ix w' G' cJ gQ⟩ cX cJ (qn gQ)
         ·rename_i st1 fv
          simp only[aa,ac] at h
          obtain⟨rfl,rfl⟩:=h
          refine run .ret _ fv rfl ?_
          intro a' w' G' e he cX cJ d9
          have gQ:=dfs rfl d9
          exact hk a' w' G' e ⟨.inr he,ix w' G' cJ gQ⟩ cX cJ (qn gQ)
         ·rename_i v st1 fv
          simp only[aa,ac] at h
          obtain⟨rfl,rfl⟩:=h
          refine run (.boom v) _ fv rfl ?_
          intro a' w' G' e he cX cJ d9
          have gQ:=dfs rfl d9
          exact hk a' w' G' e ⟨he,ix w' G' cJ gQ⟩ cX cJ (qn gQ)
         ·simp at h
        ·simp at hd
       ·simp at hd
      ·simp at h
end
end PI
