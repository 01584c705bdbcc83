import Derived.Test.YtljbhgpanekomaaGreatDoorPiOrd2
import Derived.RangeFuncRecord
set_option linter.unusedSimpArgs false
set_option linter.unusedVariables false
set_option linter.unusedSectionVars false
namespace PI
open Go Go.RowKit
def PExit.plain:PExit→Bool
 | .after _ _ _=>false
 | _=>true
def Clo (N:Nm) (w':World) (G':GS) (kd:Nat) (caps:List PV):Prop:=
 ∃ (d : Deferred) (ds : List Deferred) (vals : Array Value), G'.df = d :: ds ∧ d = { target := .fn (.func (N.fn kd)) vals, args := #[] } ∧ vals.size = caps.length ∧
   ∀(i:Nat) (v:Value) (p:PV),vals[i]? = some v→caps[i]? = some p→VR N w' G'.fix G'.heap v p
def yY (N:Nm) (w':World) (G':GS):PExit→Exit→Prop
 | .normal,e=>e = .normal
 | .exit id,e=>e = .exit id
 | .ret,e=>e = .ret
 | .boom p,e=>∃v,e = .panic [{ v,recovered:=false }]∧VR N w' G'.fix G'.heap v p
 | .after kd caps none,e=>(e = .normal∨e = .ret)∧Clo N w' G' kd caps
 | .after kd caps (some p),e=>(∃v,e = .panic [{ v,recovered:=false }]∧VR N w' G'.fix G'.heap v p)∧Clo N w' G' kd caps
def DfR (p:PC) (x:PExit) (w:World) (G:GS) (w':World) (G':GS):Prop:=
 match x with
 | .after _ _ _=>p.NR=true→∃d,G'.df=d::G.df
 | _=>∃ms,G'.df=ms++G.df∧Marks w w' G' ms∧(p.NR=true→ms=[])
def xU:Code→List (Array Tmp×Code×Code)
 | .seq a b | .cond _ a b=>xU a++xU b
 | .block _ c | .loop c=>xU c
 | .rangeFunc _ ps a b=>[(ps,a,b)]
 | _=>[]
def LpOK (E:Env) (N:Nm) (nt:Nat) (fid:FuncId) (c:Code):Prop:=
 ∀ps kb vars,(ps,kb,vars)∈E.lps→∀x∈xU c,x.1=ps→N.yl kb=some ⟨fid,ps,x.2.1,x.2.2,vars,nt⟩
theorem LpOK.sub {E:Env} {N:Nm} {nt:Nat} {fid:FuncId} {c c':Code} (h:LpOK E N nt fid c) (hs:∀x∈xU c',x∈xU c):LpOK E N nt fid c':=λps kb vars hl x hx=>h ps kb vars hl x (hs x hx)
theorem Ext.size_le {w w':World} {G G':GS} (h:ExtD w G w' G'):w.heap.size≤w'.heap.size:=Ext.size h
theorem DfR.plain {p:PC} {x:PExit} {w w':World} {G G':GS} (h:G'.df=G.df) (hx:∀kd caps v,x≠.after kd caps v):DfR p x w G w' G':=by
 unfold DfR
 cases x with
 | after kd caps v=>exact absurd rfl (hx kd caps v)
 | _=>exact⟨[],by simpa using h,Marks.nil _ _ _,λ_=>rfl⟩
theorem DfR.trans {p q s:PC} {x:PExit} {w w1 w2:World} {G G1 G2:GS} (e1:ExtD w G w1 G1) (h1:DfR p .normal w G w1 G1) (e2:ExtD w1 G1 w2 G2) (h2:DfR q x w1 G1 w2 G2) (hs:s.NR=true→p.NR=true∧q.NR=true):DfR s x w G w2 G2:=by
 obtain⟨ms,a1,a2,a3⟩:=h1
 have marks:∀ms2,G2.df=ms2++G1.df→Marks w1 w2 G2 ms2→(q.NR=true→ms2=[])→∃ms,G2.df=ms++G.df∧Marks w w2 G2 ms∧(s.NR=true→ms=[]):=by
  intro ms2 b1 b2 b3
  exact⟨ms2++ms,by rw[b1,a1]; simp,Marks.join (Ext.size_le e1) a2 e2 b2,λh=>by rw[b3 (hs h).2,a3 (hs h).1]; rfl⟩
 unfold DfR at h2 ⊢
 cases x with
 | after kd caps v =>
   intro h
   obtain⟨d,hd⟩:=h2 (hs h).2
   exact⟨d,by rw[hd,a1,a3 (hs h).1]; rfl⟩
 | normal=>obtain⟨ms2,b1,b2,b3⟩:=h2; exact marks ms2 b1 b2 b3
 | ret=>obtain⟨ms2,b1,b2,b3⟩:=h2; exact marks ms2 b1 b2 b3
 | exit id=>obtain⟨ms2,b1,b2,b3⟩:=h2; exact marks ms2 b1 b2 b3
 | boom v=>obtain⟨ms2,b1,b2,b3⟩:=h2; exact marks ms2 b1 b2 b3
theorem DfR.weak {p s:PC} {x:PExit} {w w1 w2:World} {G G1 G2:GS} (e1:ExtD w G w1 G1) (h1:G1.df=G.df) (e2:ExtD w1 G1 w2 G2) (h2:DfR p x w1 G1 w2 G2) (hs:s.NR=true→p.NR=true):DfR s x w G w2 G2:=
 DfR.trans (p := .skip) e1 (DfR.plain h1 (by simp)) e2 h2 (λh=>⟨rfl,hs h⟩)
theorem Bj {K:Act→World→Prop} {Q:Exit→Act→World→Prop} (h:¬LetsOut Q):¬LetsOut (Exit.then K Q):=fun⟨a,w,hq⟩=>h ⟨a,w,hq⟩
theorem If {id:Nat} {Q:Exit→Act→World→Prop} (h:¬LetsOut Q):¬LetsOut (Exit.inBlock id Q):=fun⟨a,w,hq⟩=>h ⟨a,w,hq⟩
theorem BJ {L:Nat→Option PFunc}:∀{n:Nat} {p:PC} {st st':St} {kd:Nat} {cs:List PV} {v:Option PV},p.RO=true→wr L n p st=some (.after kd cs v,st')→False
 | 0,p,st,st',kd,cs,v,_,h=>by simp[wr] at h
 | n + 1, p, st, st', kd, cs, v, hr, h => by
   rw[wr.eq_def] at h
   cases p with
   | rangeF x kb caps=>simp[PC.RO] at hr
   | guarded k2 caps c=>simp[PC.RO] at hr
   | round a b=>simp at h
   | skip=>simp at h
   | exit id=>simp at h
   | ret=>simp at h
   | region ops=>simp at h
   | raise ops t x =>
     simp only at h
     split at h
     ·rename_i st1 _
      cases hx:rd st1 x with
      | none=>rw[hx] at h; simp at h
      | some p=>rw[hx] at h; simp at h
     ·simp at h
   | bregion ops=>simp only at h; split at h<;>simp at h
   | branch ops x a b =>
     simp only[PC.RO,al] at hr
     simp only at h
     split at h
     ·split at h
      ·rename_i t _
       cases t
       ·exact BJ hr.2 h
       ·exact BJ hr.1 h
      ·simp at h
     ·simp at h
   | bbranch ops x a b =>
     simp only[PC.RO,al] at hr
     simp only at h
     split at h
     ·split at h
      ·rename_i t _
       cases t
       ·exact BJ hr.2 h
       ·exact BJ hr.1 h
      ·simp at h
     ·simp at h
     ·simp at h
   | seq a b =>
     simp only[PC.RO,al] at hr
     simp only at h
     split at h
     ·exact BJ hr.2 h
     ·simp at h
     ·exact BJ hr.1 h
   | block id c =>
     simp only[PC.RO] at hr
     simp only at h
     split at h
     ·split at h<;>simp at h
     ·simp at h
     ·exact BJ hr h
   | loop c =>
     have eY:=hr
     simp only[PC.RO] at hr
     simp only at h
     split at h
     ·exact BJ eY h
     ·simp at h
     ·exact BJ hr h
section
variable {E:Env} {N:Nm} {vs:List Tmp} {P:Program} {nt:Nat} {L:Nat→Option PFunc}
def KQ (N:Nm) (vs:List Tmp) (nt:Nat) (p:PC) (x:PExit) (st':St) (w:World) (G:GS) (Q:Exit→Act→World→Prop):Prop:=
 ∀a' w' G' e,yY N w' G' x e→BI N w' G' st' a' vs nt→ExtD w G w' G'→DfR p x w G w' G'→Q e a' w'
theorem F5 {K:Act→World→Prop} {Q:Exit→Act→World→Prop} {p:PC} {x:PExit} {st':St} {w:World} {G:GS} (hx:x≠.normal) (ha:∀kd caps v,x≠.after kd caps v) (h:KQ N vs nt p x st' w G Q):KQ N vs nt p x st' w G (Exit.then K Q):=by
 intro a' w' G' e he hb cL hd
 have:=h a' w' G' e he hb cL hd
 cases x with
 | normal=>exact absurd rfl hx
 | after kd caps v=>exact absurd rfl (ha kd caps v)
 | exit id=>simp only[yY] at he; subst he; exact this
 | ret=>simp only[yY] at he; subst he; exact this
 | boom v=>obtain⟨u,rfl,_⟩:=he; exact this
structure Runs (N:Nm) (P:Program) (L:Nat→Option PFunc) (n:Nat):Prop where
 call:CallOK N P (xO (wr L n) L)
 out:Dy N P (yc (wr L n) L)
 round:ED N P (yc (wr L n) L)
 yl:∀k,Cv L k=true→N.yl k=none
theorem CZ {n:Nat} {k:Nat} {args:List PV} {h:List PObj} {x} (hc:xO (wr L n) L k args h=some x):∃f,L k=some f:=by
 unfold xO at hc
 split at hc
 ·simp at hc
 ·rename_i f hf; exact⟨f,hf⟩
theorem Dz {n:Nat} {k:Nat} {args:List PV} {h:List PObj} {x} (hc:yc (wr L n) L k args h=some x):∃f,L k=some f:=by
 unfold yc at hc
 split at hc
 ·simp at hc
 ·rename_i f hf; exact⟨f,hf⟩
theorem Ca (hF:yr N P L) (hE:EnvOk E N) (hP:E.P=P) (dq:P.follows .mixedOrders=true) (dl:vs.Nodup) {fid:FuncId} {rd':Option Nat}:
  ∀ (n : Nat), (∀ m, m < n → Runs N P L m) → ∀ {c : Code} {p : PC} {x : PExit} {st st' : St} {w : World} {G : GS} {a : Act} {Q : Exit → Act → World → Prop}, Cmp E nt vs c p → wr L n p st = some (x, st') → BI N w G st a vs nt → LpOK E N nt fid c →
    (rd'=none∨p.RO=true)→¬LetsOut Q→KQ N vs nt p x st' w G Q→wpN rd' fid P c Q a w
 | 0,_,c,p,x,st,st',w,G,a,Q,_,h,_,_,_,_,_=>by simp[wr] at h
 | n + 1, db, c, p, x, st, st', w, G, a, Q, hc, h, hb, hY, hR, hQ, hk => by
   have cO:=db n (by omega)
   have branch:∀{m:Nat},m≤n→∀{id:Nat} {ops:Array Oper} {d:Bool} {pos:List PO} {cc:Operand} {px:PX} {x1 y1:Code} {p1 p2:PC} {Q:Exit→Act→World→Prop} {x:PExit} {st':St},Bi E nt vs ops d=some pos→cx E vs ops.toList cc=some px→Cmp E nt vs x1 p1→Cmp E nt vs y1 p2 →
     LpOK E N nt fid x1→LpOK E N nt fid y1→(rd'=none∨(p1.RO=true∧p2.RO=true))→¬LetsOut Q →
     wr L (m+1) (.branch pos px p1 p2) st=some (x,st')→KQ N vs nt (.branch pos px p1 p2) x st' w G Q→wpN rd' fid P (.region id ops d) (Exit.then (wpN rd' fid P (.cond cc x1 y1) Q) Q) a w:=by
    intro m hm id ops d pos cc px x1 y1 p1 p2 Q x st' fX eF hx hy qG qH hR hQ h hk
    have ih := @Ca hF hE hP dq dl fid rd' m (λm' kM=>db m' (by omega))
    have cO:=db m (by omega)
    simp only[wr] at h
    split at h
    ·rename_i st1 eb
     split at h
     ·rename_i t ht
      refine CD (Lg hF hE hP dq dl cO.call (λ_ _ _ _=>CZ) fX eb hb (Bj hQ) ?_)
      intro a' w' G' hf he cS
      have eM:=(wU hE eF hf ht).1
      have eR:a'.eval cc = .bool t:=by generalize a'.eval cc=z at eM; cases eM; rfl
      have cX:=FI.finish (nt:=nt) hf cS
      refine Ig eR ?_
      have knext:∀(pq:PC),(pq=p1∨pq=p2)→KQ N vs nt pq x st' w' G' Q:=by
       intro pq nQ a2 w2 G2 e2 h1 h2 h3 h4
       refine hk a2 w2 G2 e2 h1 h2 (ExtD.trans (.of he) h3) (DfR.weak (.of he) he.df h3 h4 ?_)
       intro hn
       simp only[PC.NR,al] at hn
       rcases nQ with rfl|rfl
       ·exact hn.1
       ·exact hn.2
      cases t with
      | true=>exact ih hx (by simpa using h) cX qG (hR.imp (λh=>h) (·.1)) hQ (knext _ (.inl rfl))
      | false=>exact ih hy (by simpa using h) cX qH (hR.imp (λh=>h) (·.2)) hQ (knext _ (.inr rfl))
     ·simp at h
    ·simp at h
   have bbranch:∀{m:Nat},m≤n→∀{id:Nat} {ops:Array Oper} {d:Bool} {pos:List PO} {cc:Operand} {px:PX} {x1 y1:Code} {p1 p2:PC} {Q:Exit→Act→World→Prop} {x:PExit} {st':St},CB E nt vs ops d=some pos→cx E vs ops.toList cc=some px→Cmp E nt vs x1 p1→Cmp E nt vs y1 p2 →
     LpOK E N nt fid x1→LpOK E N nt fid y1→(rd'=none∨(p1.RO=true∧p2.RO=true))→¬LetsOut Q →
     wr L (m+1) (.bbranch pos px p1 p2) st=some (x,st')→KQ N vs nt (.bbranch pos px p1 p2) x st' w G Q→wpN rd' fid P (.region id ops d) (Exit.then (wpN rd' fid P (.cond cc x1 y1) Q) Q) a w:=by
    intro m hm id ops d pos cc px x1 y1 p1 p2 Q x st' fX eF hx hy qG qH hR hQ h hk
    have ih := @Ca hF hE hP dq dl fid rd' m (λm' kM=>db m' (by omega))
    have cO:=db m (by omega)
    simp only[wr] at h
    split at h
    ·rename_i st1 eb
     split at h
     ·rename_i t ht
      refine CD (F3 (res:=none) hF hE hP dq dl cO.call cO.out cO.round (λ_ _ _ _=>CZ) (λ_ _ _ _=>Dz) fX eb hb (Bj hQ) ?_ (λp e=>by simp at e))
      intro _ a' w' G' hf he cS
      have eM:=(wU hE eF hf ht).1
      have eR:a'.eval cc = .bool t:=by generalize a'.eval cc=z at eM; cases eM; rfl
      have cX:=FI.finish (nt:=nt) hf cS
      refine Ig eR ?_
      have knext:∀(pq:PC),(pq=p1∨pq=p2)→KQ N vs nt pq x st' w' G' Q:=by
       intro pq nQ a2 w2 G2 e2 h1 h2 h3 h4
       refine hk a2 w2 G2 e2 h1 h2 (ExtD.trans (.of he) h3) (DfR.weak (.of he) he.df h3 h4 ?_)
       intro hn
       simp only[PC.NR,al] at hn
       rcases nQ with rfl|rfl
       ·exact hn.1
       ·exact hn.2
      cases t with
      | true=>exact ih hx (by simpa using h) cX qG (hR.imp (λh=>h) (·.1)) hQ (knext _ (.inl rfl))
      | false=>exact ih hy (by simpa using h) cX qH (hR.imp (λh=>h) (·.2)) hQ (knext _ (.inr rfl))
     ·simp at h
    ·rename_i v st1 eb
     simp only[aa,ac] at h
     obtain⟨rfl,rfl⟩:=h
     refine CD (F3 (res:=some v) hF hE hP dq dl cO.call cO.out cO.round (λ_ _ _ _=>CZ) (λ_ _ _ _=>Dz) fX eb hb (Bj hQ) (λe=>by simp at e) ?_)
     rintro p e a' w' G' u hu he cX
     cases e
     exact hk a' w' G' _ ⟨u,rfl,hu⟩ cX (.of he) (DfR.plain he.df (by simp))
    ·simp at h
   have nrB:∀{pos:List PO} {px:PX} {p1 p2:PC},(rd'=none∨(PC.branch pos px p1 p2).RO=true)→(rd'=none∨(p1.RO=true∧p2.RO=true)):=by
    intro pos px p1 p2 h
    exact h.imp id (λh=>by simpa[PC.RO] using h)
   have nrBB:∀{pos:List PO} {px:PX} {p1 p2:PC},(rd'=none∨(PC.bbranch pos px p1 p2).RO=true)→(rd'=none∨(p1.RO=true∧p2.RO=true)):=by
    intro pos px p1 p2 h
    exact h.imp id (λh=>by simpa[PC.RO] using h)
   have ih := @Ca hF hE hP dq dl fid rd' n (λm hm=>db m (by omega))
   have up:∀{id:Nat} {ops:Array Oper} {d:Bool} {cc:Operand} {x1 y1 r:Code} {a:Act} {w:World},wpN rd' fid P (.region id ops d) (Exit.then (wpN rd' fid P (.cond cc x1 y1) (Exit.then (wpN rd' fid P r Q) Q)) (Exit.then (wpN rd' fid P r Q) Q)) a w→wpN rd' fid P (.region id ops d) (Exit.then (wpN rd' fid P (.seq (.cond cc x1 y1) r) Q) Q) a w:=by
    intro id ops d cc x1 y1 r a w hw
    refine c3r hw ?_
    intro e a' w' hq
    cases e<;>simp only[Exit.then] at hq ⊢
    ·exact C0 hq
    all_goals exact hq
   cases hc with
   | stuck=>simp[Ag,wr,yx,yB,rd,raw,cp] at h
   | skip =>
     simp only[wr,aa,ac] at h
     obtain⟨rfl,rfl⟩:=h
     exact c3s (hk _ _ G .normal rfl hb (ExtD.refl _ _) (DfR.plain rfl (by simp)))
   | exit id =>
     simp only[wr,aa,ac] at h
     obtain⟨rfl,rfl⟩:=h
     exact Lk (hk _ _ G (.exit id) rfl hb (ExtD.refl _ _) (DfR.plain rfl (by simp)))
   | ret =>
     simp only[wr,aa,ac] at h
     obtain⟨rfl,rfl⟩:=h
     exact Ll (hk _ _ G .ret rfl hb (ExtD.refl _ _) (DfR.plain rfl (by simp)))
   | region id ops d pos fX =>
     simp only[wr,ab,ac] at h
     obtain⟨st1,eb,rfl,rfl⟩:=h
     exact CD (Lg hF hE hP dq dl cO.call (λ_ _ _ _=>CZ) fX eb hb hQ (λa' w' G' hf he cS=>hk a' w' G' .normal rfl (FI.finish hf cS) (.of he) (DfR.plain he.df (by simp))))
   | bregion id ops d pos fX =>
     simp only[wr] at h
     split at h
     ·rename_i st1 eb
      simp only[aa,ac] at h
      obtain⟨rfl,rfl⟩:=h
      refine CD (F3 (res:=none) hF hE hP dq dl cO.call cO.out cO.round (λ_ _ _ _=>CZ) (λ_ _ _ _=>Dz) fX eb hb hQ ?_ (λp e=>by simp at e))
      intro _ a' w' G' hf he cS
      exact hk a' w' G' .normal rfl (FI.finish hf cS) (.of he) (DfR.plain he.df (by simp))
     ·rename_i v st1 eb
      simp only[aa,ac] at h
      obtain⟨rfl,rfl⟩:=h
      refine CD (F3 (res:=some v) hF hE hP dq dl cO.call cO.out cO.round (λ_ _ _ _=>CZ) (λ_ _ _ _=>Dz) fX eb hb hQ (λe=>by simp at e) ?_)
      rintro p e a' w' G' u hu he cX
      cases e
      exact hk a' w' G' _ ⟨u,rfl,hu⟩ cX (.of he) (DfR.plain he.df (by simp))
     ·simp at h
   | raise id ops pos t px fX =>
     simp only[wr] at h
     split at h
     ·rename_i st1 eb
      simp only[ab,ac] at h
      obtain⟨u,hu,rfl,rfl⟩:=h
      refine CD (b6X hF hE hP dl cO.call (λ_ _ _ _=>CZ) fX eb hu hb hQ ?_)
      intro a' w' G' v hv he cX
      exact hk a' w' G' _ ⟨v,rfl,hv⟩ cX (.of he) (DfR.plain he.df (by simp))
     ·simp at h
   | branch id ops d pos cc px x1 y1 p1 p2 fX eF hx hy =>
     exact C0 (branch (ao _) fX eF hx hy (hY.sub (λz hz=>by simp[xU,hz])) (hY.sub (λz hz=>by simp[xU,hz])) (nrB hR) hQ h hk)
   | bbranch id ops d pos cc px x1 y1 p1 p2 fX eF hx hy =>
     exact C0 (bbranch (ao _) fX eF hx hy (hY.sub (λz hz=>by simp[xU,hz])) (hY.sub (λz hz=>by simp[xU,hz])) (nrBB hR) hQ h hk)
   | branchSeq id ops d pos cc px x1 y1 r p1 p2 pr fX eF hx hy hr =>
     simp only[wr] at h
     refine C0 ?_
     have gW:rd'=none∨(PC.branch pos px p1 p2).RO=true:=hR.imp (λh=>h) (λh=>by simp only[PC.RO,al] at h ⊢; exact h.1)
     have fR:rd'=none∨pr.RO=true:=hR.imp (λh=>h) (λh=>by simp only[PC.RO,al] at h; exact h.2)
     split at h
     ·rename_i st1 eb
      cases n with
      | zero=>simp[wr] at eb
      | succ m =>
        refine up (branch (Nat.le_succ m) fX eF hx hy (hY.sub (λz hz=>by simp[xU,hz])) (hY.sub (λz hz=>by simp[xU,hz])) (nrB gW) (Bj hQ) eb ?_)
        intro a' w' G' e he cX cL hd
        simp only[yY] at he
        subst he
        refine ih hr h cX (hY.sub (λz hz=>by simp[xU,hz])) fR hQ ?_
        intro a2 w2 G2 e2 h1 h2 h3 h4
        exact hk a2 w2 G2 e2 h1 h2 (cL.trans h3) (DfR.trans cL hd h3 h4 (λhn=>by simpa only[PC.NR,al] using hn))
     ·simp at h
     ·rename_i da fl
      cases n with
      | zero=>simp[wr] at h
      | succ m =>
        refine up (branch (Nat.le_succ m) fX eF hx hy (hY.sub (λz hz=>by simp[xU,hz])) (hY.sub (λz hz=>by simp[xU,hz])) (nrB gW) (Bj hQ) h ?_)
        refine F5 (λe=>da st' (by rw[h,e])) (λkd caps v e=>fl kd caps v st' (by rw[h,e])) ?_
        intro a2 w2 G2 e2 h1 h2 h3 h4
        exact hk a2 w2 G2 e2 h1 h2 h3 (DfR.weak (ExtD.refl _ _) rfl h3 h4 (λhn=>by simp only[PC.NR,al] at hn ⊢; exact hn.1))
   | bbranchSeq id ops d pos cc px x1 y1 r p1 p2 pr fX eF hx hy hr =>
     simp only[wr] at h
     refine C0 ?_
     have gW:rd'=none∨(PC.bbranch pos px p1 p2).RO=true:=hR.imp (λh=>h) (λh=>by simp only[PC.RO,al] at h ⊢; exact h.1)
     have fR:rd'=none∨pr.RO=true:=hR.imp (λh=>h) (λh=>by simp only[PC.RO,al] at h; exact h.2)
     split at h
     ·rename_i st1 eb
      cases n with
      | zero=>simp[wr] at eb
      | succ m =>
        refine up (bbranch (Nat.le_succ m) fX eF hx hy (hY.sub (λz hz=>by simp[xU,hz])) (hY.sub (λz hz=>by simp[xU,hz])) (nrBB gW) (Bj hQ) eb ?_)
        intro a' w' G' e he cX cL hd
        simp only[yY] at he
        subst he
        refine ih hr h cX (hY.sub (λz hz=>by simp[xU,hz])) fR hQ ?_
        intro a2 w2 G2 e2 h1 h2 h3 h4
        exact hk a2 w2 G2 e2 h1 h2 (cL.trans h3) (DfR.trans cL hd h3 h4 (λhn=>by simpa only[PC.NR,al] using hn))
     ·simp at h
     ·rename_i da fl
      cases n with
      | zero=>simp[wr] at h
      | succ m =>
        refine up (bbranch (Nat.le_succ m) fX eF hx hy (hY.sub (λz hz=>by simp[xU,hz])) (hY.sub (λz hz=>by simp[xU,hz])) (nrBB gW) (Bj hQ) h ?_)
        refine F5 (λe=>da st' (by rw[h,e])) (λkd caps v e=>fl kd caps v st' (by rw[h,e])) ?_
        intro a2 w2 G2 e2 h1 h2 h3 h4
        exact hk a2 w2 G2 e2 h1 h2 h3 (DfR.weak (ExtD.refl _ _) rfl h3 h4 (λhn=>by simp only[PC.NR,al] at hn ⊢; exact hn.1))
   | seq x1 y1 p1 q1 hx hy =>
     simp only[wr] at h
     refine C0 ?_
     have gW:rd'=none∨p1.RO=true:=hR.imp (λh=>h) (λh=>by simp only[PC.RO,al] at h; exact h.1)
     have fR:rd'=none∨q1.RO=true:=hR.imp (λh=>h) (λh=>by simp only[PC.RO,al] at h; exact h.2)
     split at h
     ·rename_i st1 eb
      refine ih hx eb hb (hY.sub (λz hz=>by simp[xU,hz])) gW (Bj hQ) ?_
      intro a' w' G' e he cX cL hd
      simp only[yY] at he
      subst he
      refine ih hy h cX (hY.sub (λz hz=>by simp[xU,hz])) fR hQ ?_
      intro a2 w2 G2 e2 h1 h2 h3 h4
      exact hk a2 w2 G2 e2 h1 h2 (cL.trans h3) (DfR.trans cL hd h3 h4 (λhn=>by simpa only[PC.NR,al] using hn))
     ·simp at h
     ·rename_i da fl
      refine ih hx h hb (hY.sub (λz hz=>by simp[xU,hz])) gW (Bj hQ) ?_
      refine F5 (λe=>da st' (by rw[h,e])) (λkd caps v e=>fl kd caps v st' (by rw[h,e])) ?_
      intro a2 w2 G2 e2 h1 h2 h3 h4
      exact hk a2 w2 G2 e2 h1 h2 h3 (DfR.weak (ExtD.refl _ _) rfl h3 h4 (λhn=>by simp only[PC.NR,al] at hn ⊢; exact hn.1))
   | cond cc px x1 y1 p1 q1 eF hx hy =>
     simp only[wr,yx,yB] at h
     split at h
     ·rename_i t ht
      have hf:=FI.begin (lm:=wk vs []) hb (by intro j t hj; simp[wk] at hj) 0
      have eM:=(wU hE eF hf ht).1
      have eR:a.eval cc = .bool t:=by generalize a.eval cc=z at eM; cases eM; rfl
      have cX:=FI.finish (nt:=nt) hf hb.size
      refine Ig eR ?_
      have knext:∀(pq:PC),(pq=p1∨pq=q1)→KQ N vs nt pq x st' w G Q:=by
       intro pq nQ a2 w2 G2 e2 h1 h2 h3 h4
       refine hk a2 w2 G2 e2 h1 h2 h3 (DfR.weak (ExtD.refl _ _) rfl h3 h4 ?_)
       intro hn
       simp only[PC.NR,al] at hn
       rcases nQ with rfl|rfl
       ·exact hn.1
       ·exact hn.2
      cases t with
      | true=>exact ih hx (by simpa using h) cX (hY.sub (c':=x1) (λz hz=>by simp[xU,hz])) ((nrB hR).imp (λh=>h) (·.1)) hQ (knext _ (.inl rfl))
      | false=>exact ih hy (by simpa using h) cX (hY.sub (c':=y1) (λz hz=>by simp[xU,hz])) ((nrB hR).imp (λh=>h) (·.2)) hQ (knext _ (.inr rfl))
     ·simp at h
   | block id x1 p1 hx =>
     simp only[wr] at h
     refine c1w ?_
     have gW:rd'=none∨p1.RO=true:=hR
     have nh:LpOK E N nt fid x1:=hY
     split at h
     ·rename_i i st1 eb
      split at h
      ·rename_i hi
       subst hi
       simp only[aa,ac] at h
       obtain⟨rfl,rfl⟩:=h
       refine ih hx eb hb nh gW (If hQ) ?_
       intro a' w' G' e he cX cL hd
       simp only[yY] at he
       subst he
       simp only[Exit.inBlock,if_true]
       exact hk a' w' G' .normal rfl cX cL hd
      ·rename_i hi
       simp only[aa,ac] at h
       obtain⟨rfl,rfl⟩:=h
       refine ih hx eb hb nh gW (If hQ) ?_
       intro a' w' G' e he cX cL hd
       simp only[yY] at he
       subst he
       simp only[Exit.inBlock,af hi]
       exact hk a' w' G' _ rfl cX cL hd
     ·simp at h
     ·rename_i da fl
      refine ih hx h hb nh gW (If hQ) ?_
      intro a' w' G' e he cX cL hd
      have:=hk a' w' G' e he cX cL hd
      cases x with
      | normal=>simp only[yY] at he; subst he; exact this
      | exit i=>exact absurd h (λe=>da _ _ e)
      | ret=>simp only[yY] at he; subst he; exact this
      | boom v=>obtain⟨u,rfl,_⟩:=he; exact this
      | after kd caps v=>exact absurd h (λe=>fl _ _ _ _ e)
   | loop x1 p1 hx =>
     refine b29 (n+1) ?_
     have gW:rd'=none∨p1.RO=true:=hR
     have nh:LpOK E N nt fid x1:=hY
     have key:∀(m:Nat),m≤n+1→∀{st:St} {w:World} {G:GS} {a:Act},wr L m (.loop p1) st=some (x,st')→BI N w G st a vs nt→KQ N vs nt (.loop p1) x st' w G Q→DA rd' fid P x1 Q m a w:=by
      intro m
      induction m with
      | zero=>intro _ st w G a h; simp[wr] at h
      | succ m ihm =>
        intro hm st w G a h hb hk
        rw[b6T]
        have ih' := @Ca hF hE hP dq dl fid rd' m (λm' kM=>db m' (by omega))
        simp only[wr] at h
        split at h
        ·rename_i st1 eb
         refine ih' hx eb hb nh gW (Bj hQ) ?_
         intro a' w' G' e he cX cL hd
         simp only[yY] at he
         subst he
         refine ihm (by omega) h cX ?_
         intro a2 w2 G2 e2 h1 h2 h3 h4
         exact hk a2 w2 G2 e2 h1 h2 (cL.trans h3) (DfR.trans cL hd h3 h4 (λhn=>⟨hn,hn⟩))
        ·simp at h
        ·rename_i da fl
         refine ih' hx h hb nh gW (Bj hQ) ?_
         refine F5 (λe=>da st' (by rw[h,e])) (λkd caps v e=>fl kd caps v st' (by rw[h,e])) ?_
         intro a2 w2 G2 e2 h1 h2 h3 h4
         exact hk a2 w2 G2 e2 h1 h2 h3 h4
     exact key (n+1) (ao _) h hb hk
   | rangeF g ps as body px kb vars caps hg hl hv =>
     simp only[wr] at h
     split at h
     ·rename_i k first captured cs iZ jV
      split at h
      ·simp at h
      ·rename_i gX
       have dW:rd'=none:=by rcases hR with h|h; exact h; simp[PC.RO] at h
       subst dW
       have qI:wk vs []=(λ_=>none):=by funext j; simp[wk]
       have hf:FI N w G st a vs (wk vs []):=by rw[qI]; exact hb.fi
       have sZ:=(wU hE hg hf iZ).1
       obtain⟨dG,mg⟩:=AG hE hf hv jV
       have i7:N.yl k=none:=cO.yl k (by simpa using gX)
       generalize uq:a.eval g=gv at sZ
       cases sZ with
       | yield _ m l y tmps caps' hy _ _ _ _ _=>rw[i7] at hy; simp at hy
       | func _ fs cs' _ _ hy e1 e2 kX d9 =>
         have ep:=run_enterLoop_outer (P:=P) (w:=w) fid a.tmps ps as body
         have x1:=b94 hb.fi (.deferred (some []))
         have fJ:(w.alloc (.deferred (some []))).heap.size=w.heap.size+1:=by simp
         have x2:=c4E x1.2 (ob := .loop true) (mob := .loop { state := .ready,pending:=none,fn:=fid,tmps:=a.tmps,params:=ps,assign:=as,body:=body,defers:=w.heap.size }) (by
          rintro G' rfl _
          refine⟨?_,_,AU,rfl,by simp⟩
          intro o fo
          have:=x1.2.fixlt _ _ fo
          omega)
         rw[fJ] at x2
         generalize i8:(w.alloc (.deferred (some []))).alloc (.loop { state := .ready,pending:=none,fn:=fid,tmps:=a.tmps,params:=ps,assign:=as,body:=body,defers:=w.heap.size })=w1 at ep x2
         have dS:w1.heap[w.heap.size+1]? = some (.loop { state := .ready,pending:=none,fn:=fid,tmps:=a.tmps,params:=ps,assign:=as,body:=body,defers:=w.heap.size }):=by
          rw[← i8,← fJ]; exact AU
         have jJ:w1.heap[w.heap.size]? = some (.deferred (some [])):=by
          rw[← i8,yN (by rw[fJ]; omega)]; exact AU
         have eb:w1.heap.size=w.heap.size+2:=by rw[← i8]; simp
         have dT:Ext w G w1 (G.more (w.heap.size+1) st.heap.length):=x1.1.trans x2.1
         have f2:=x2.2
         generalize s3:G.more (w.heap.size+1) st.heap.length=G1 at dT f2
         have dF:G1.heap st.heap.length=some (w.heap.size+1):=by rw[← s3]; simp[GS.more]
         have nR:G1.ow w.heap.size=none:=by
          rw[← s3]
          simp only[GS.more]
          rw[af (by omega)]
          cases hx:G.ow w.heap.size with
          | none=>rfl
          | some kk=>have:=hb.fi.owlt _ _ hx; omega
         have qJ:VR N w1 G1.fix G1.heap (.func (.yield (w.heap.size+1)) #[] #[]) (.func kb (.ptr st.heap.length 0::cs) []):=by
          refine .yield kb st.heap.length (w.heap.size+1) ⟨fid,ps,as,body,vars,nt⟩ a.tmps cs (hY ps kb vars hl (ps,as,body) (by simp[xU]) rfl) dF (by simp[yC,dS]) (by simpa using dG.symm) hb.size ?_
          intro i t p ht hp
          have:=(mg i (.tmp t) p (by simpa using ht) hp).1
          exact VR.ext (by simpa[Act.eval] using this) dT
         have dt:(resolve a.eval (rangeCall g (w.heap.size+1)) 0).run P w1 = .ok { target := .fn (.func (N.fn k)) cs',args:=fs ++ #[.func (.yield (w.heap.size+1)) #[] #[]] } w1:=by
          have qK:a.eval (.const (.func (.yield (w.heap.size+1)) #[] #[])) = .func (.yield (w.heap.size+1)) #[] #[]:=rfl
          simp[resolve,rangeCall,uq,Deferred.ofValue,qK]
         obtain⟨pf,hL⟩:∃f,L k=some f:=by
          split at h
          ·exact Dz (by assumption)
          ·exact Dz (by assumption)
          ·simp at h
         have jt:(invoke (.fn (.func (N.fn k)) cs') (fs ++ #[.func (.yield (w.heap.size+1)) #[] #[]])).run P w1 = .ok (.enter (N.fn k) (fs ++ #[.func (.yield (w.heap.size+1)) #[] #[]]++cs')) w1:=by
          simp only[invoke]
          exact BK hF hL _ w1
         have dH:∀(i:Nat) (v:Value) (p:PV),(fs ++ #[.func (.yield (w.heap.size+1)) #[] #[]]++cs')[i]? = some v→(first ++ .func kb (.ptr st.heap.length 0::cs) []::captured)[i]? = some p→VR N w1 G1.fix G1.heap v p:=by
          intro i v p dI hp
          by_cases hi:i<fs.size
          ·rw[bX,bm hi] at dI
           rw[am (by omega)] at hp
           exact(kX i v p dI hp).ext dT
          ·rw[bX,bY (by omega)] at dI
           rw[ar (by omega),← e1] at hp
           cases hn:i - fs.size with
           | zero =>
             rw[hn] at dI hp
             rw[bm (by simp)] at dI
             simp at dI hp
             subst dI hp
             exact qJ
           | succ m =>
             rw[hn] at dI hp
             rw[bY (by simp)] at dI
             simp at dI hp
             exact(d9 m v p dI hp).ext dT
         have eU:(fs ++ #[Value.func (.yield (w.heap.size+1)) #[] #[]]++cs').size=(first++PV.func kb (.ptr st.heap.length 0::cs) []::captured).length:=by simp[e1,e2]; omega
         have marks:∀{w' w4:World} {G':GS} {e5:Ext w1 G1 w' G'} {G4:GS},w4.heap[w.heap.size]? = w'.heap[w.heap.size]?→G4.ow=G'.ow→Marks w w4 G4 [{ target := .collected w.heap.size,args := #[] }]:=by
          intro w' w4 G' e5 G4 ur ut
          refine⟨[w.heap.size],rfl,by simp,?_⟩
          intro b hb
          simp only[aO] at hb
          subst hb
          refine⟨ao _,?_,?_⟩
          ·rw[ur,e5.same _ (by omega) nR]; exact jJ
          ·rw[ut]
           cases hx:G'.ow w.heap.size with
           | none=>rfl
           | some kk =>
             rcases e5.own w.heap.size (by rw[hx]; simp) with h|h
             ·omega
             ·exact absurd nR h
         have fin:∀{x':PExit} {j:Option Code} {ob:PObj} {u:PV} {h':List PObj},yc (wr L n) L k (first ++ .func kb (.ptr st.heap.length 0::cs) []::captured) (st.heap++[.loop true])=some (.val u,h') →
           KQ N vs nt (.rangeF px kb caps) x' { st with heap:=h'.set st.heap.length .gone } w G Q→((j=none∧x' = .normal)∨(j=some .ret∧x' = .ret)∨∃id,j=some (.exit id)∧x' = .exit id) →
           h'[st.heap.length]? = some ob→ob≠.gone→(∀(w':World) (G':GS) (b:Nat),ObjR N w' G' st.heap.length b ob→(∀o,¬G'.fix b o)∧∃r:Go.Loop,w'.heap[b]? = some (.loop r)∧r.pending=j∧r.state≠.busy) →
           wpN none fid P (.rangeFunc g ps as body) Q a w:=by
          intro x' j ob u h' db hk hj iF pX dB
          refine Lm ep dt jt ((cO.out k _ _ _ _ db i7 w1 G1.callee _ (DB f2) eU dH).mono ?_)
          rintro e w' ⟨G2,⟨v,rfl,cT⟩,he,dy⟩
          obtain⟨G',cL,de,g1,g2⟩:=F6 f2 he dy
          rcases de.heap.1 st.heap.length _ iF with ni|⟨b,k1,k2,k3⟩
          ·exact absurd ni pX
          obtain⟨kf,r,k3,k4,k5⟩:=dB _ _ _ k3
          have:b=w.heap.size+1:=by have:=cL.heap _ _ dF; rw[k1] at this; simpa using this
          subst this
          have eZ:=run_endLoop (P:=P) k3 k5
          have eZ:=eZ.trans (aE (λz=>Result.ok z _) k4)
          obtain⟨e6,uu⟩:=Ln (ob' := .gone) (mob := .loop { r with state := .exhausted }) de k1 k2 kf (by simp[World.shape?,k3]) (by
           intro s hs
           have cQ:w.heap.size+1<w'.heap.size:=(ba.1 k3).1
           simp only[yC,k3] at hs
           simpa[yC,bb,cQ] using hs) (.inl rfl)
          refine⟨_,_,eZ,?_⟩
          have dm:=(dT.trans cL).trans e6
          have qL:=FI.setDf uu ([{ target := .collected w.heap.size,args := #[] }]++a.defers)
          have last:∀e2,yY N _ _ x' e2→Q e2 _ _:=λe2 eA=>hk { a with defers:=[{ target := .collected w.heap.size,args := #[] }]++a.defers } (w'.putObj (w.heap.size+1) (.loop { r with state := .exhausted })) { G' with df:=[{ target := .collected w.heap.size,args := #[] }]++a.defers } e2 eA ⟨qL,hb.size⟩ (Ext.setDf dm _) (by
           have hd:∃ms,([{ target := .collected w.heap.size,args := #[] }]++a.defers:List Deferred)=ms++G.df∧Marks w (w'.putObj (w.heap.size+1) (.loop { r with state := .exhausted })) { G' with df:=[{ target := .collected w.heap.size,args := #[] }]++a.defers } ms∧((PC.rangeF px kb caps).NR=true→ms=[]):=
            ⟨[{ target := .collected w.heap.size,args := #[] }],by simp[hb.fi.defers],marks (e5:=cL) (w4:=w'.putObj (w.heap.size+1) (.loop { r with state := .exhausted })) (G4:={ G' with df:=[{ target := .collected w.heap.size,args := #[] }]++a.defers }) (by simp[World.putObj,bb]) rfl,by simp[PC.NR]⟩
           rcases hj with⟨_,rfl⟩|⟨_,rfl⟩|⟨id,_,rfl⟩<;>exact hd)
          rcases hj with⟨rfl,rfl⟩|⟨rfl,rfl⟩|⟨id,rfl,rfl⟩
          ·exact last _ rfl
          ·exact Ll (last _ rfl)
          ·exact Lk (last _ rfl)
         split at h
         ·rename_i u h' db
          split at h
          ·rename_i iF
           simp only[aa,ac] at h
           obtain⟨rfl,rfl⟩:=h
           exact fin db hk (.inl ⟨rfl,rfl⟩) iF (by simp) (λw' G' b ⟨kf,r,k3,k4,k5⟩=>⟨kf,r,k3,k4,by rw[k5]; simp⟩)
          ·rename_i id iF
           simp only[aa,ac] at h
           obtain⟨rfl,rfl⟩:=h
           exact fin db hk (.inr (.inr ⟨id,rfl,rfl⟩)) iF (by simp) (λw' G' b ⟨kf,r,k3,k4,k5⟩=>⟨kf,r,k3,k4,by rw[k5]; simp⟩)
          ·rename_i iF
           simp only[aa,ac] at h
           obtain⟨rfl,rfl⟩:=h
           exact fin db hk (.inr (.inl ⟨rfl,rfl⟩)) iF (by simp) (λw' G' b ⟨kf,r,k3,k4,k5⟩=>⟨kf,r,k3,k4,by rw[k5]; simp⟩)
          ·simp at h
         ·rename_i v h' db
          simp only[aa,ac] at h
          obtain⟨rfl,rfl⟩:=h
          refine Lm ep dt jt ((cO.out k _ _ _ _ db i7 w1 G1.callee _ (DB f2) eU dH).mono ?_)
          rintro e w' ⟨G2,⟨u,rfl,cT⟩,he,dy⟩
          obtain⟨G',cL,de,g1,g2⟩:=F6 f2 he dy
          have dm:=dT.trans cL
          have qL:=FI.setDf de ([{ target := .collected w.heap.size,args := #[] }]++a.defers)
          refine hk _ _ _ _ ⟨u,rfl,by rw[← g1,← g2] at cT; exact cT⟩ ⟨qL,hb.size⟩ (Ext.setDf dm _) ⟨[{ target := .collected w.heap.size,args := #[] }],by simp[hb.fi.defers],marks (e5:=cL) rfl rfl,by simp[PC.NR]⟩
         ·simp at h
     ·simp at h
   | guarded id ops kd caps y q hd hy =>
     simp only[wr] at h
     split at h
     ·simp at h
     ·rename_i gX
      have lG:q.NR=true:=by simpa using gX
      have dW:rd'=none:=by rcases hR with h|h; exact h; simp[PC.RO] at h
      subst dW
      split at h
      ·rename_i cs jV
       unfold HZ at hd
       split at hd
       ·rename_i d f first pcaps ty1 ps1 af1 d' args ts2 ty2 ps2 af2 nS
        split at hd
        ·rename_i gL
         obtain⟨rfl,ng,dc,qM,qN⟩:=gL
         simp only[ae,ab,ac] at hd
         obtain⟨k0,lH,pcs,qO,rfl,rfl⟩:=hd
         have qI:wk vs []=(λ_=>none):=by funext j; simp[wk]
         have hf:FI N w G st a vs (wk vs []):=by rw[qI]; exact hb.fi
         obtain⟨dG,mg⟩:=AG hE hf qO jV
         obtain⟨ops⟩:=ops
         simp only at nS
         subst nS
         have nT:first = #[]:=by cases first; simpa using qM
         have nU:args = #[]:=by cases args; simpa using qN
         subst nT nU
         have ei:=hE.fn _ _ lH
         refine C0 (CD (n:=0) (wpIn_region ?_))
         have ju:List.range (Array.mk [({ dst:=some d,op := .makeFunc (.func f) #[] pcaps,type:=ty1,pos:=ps1,after:=af1,guard:=none }:Oper),{ dst:=none,op := .defer { callee := .value (.tmp d),args := #[],argTypes:=ts2 },type:=ty2,pos:=ps2,after:=af2,guard:=none }]).size=[0,1]:=rfl
         rw[ju,wpOpsIn_cons]
         unfold wpOpIn
         simp only[bD,bZ,Region.wanted,if_true]
         refine⟨λ_ _=>Ah _,?_⟩
         rw[show (W none).round=none from rfl,Oper.semAt_none]
         have jW:(execOp a.eval ({ dst:=some d,op := .makeFunc (.func f) #[] pcaps,type:=ty1,pos:=ps1,after:=af1,guard:=none }:Oper)).run P w = .ok (.value (.func (.func f) #[] (pcaps.map a.eval))) w:=by
          simp[execOp,Instr.makeFunc]
         rw[jW,Oper.uponIn_value]
         rw[wpOpsIn_cons]
         unfold wpOpIn
         simp only[bD,cH,bZ,Region.wanted,if_true]
         refine⟨λ_ _=>Ah _,?_⟩
         rw[show (W none).round=none from rfl,Oper.semAt_none]
         have eM:(a.put (some d) (.func (.func f) #[] (pcaps.map a.eval))).eval (.tmp d) = .func (.func f) #[] (pcaps.map a.eval):=by
          have:d<a.tmps.size:=aK dc hb.size
          simp[Act.eval,Act.put,aM,bb,this]
         have jU:(execOp (a.put (some d) (.func (.func f) #[] (pcaps.map a.eval))).eval ({ dst:=none,op := .defer { callee := .value (.tmp d),args := #[],argTypes:=ts2 },type:=ty2,pos:=ps2,after:=af2,guard:=none }:Oper)).run P w =
           .ok (.defer { target := .fn (.func f) (pcaps.map a.eval),args := #[] }) w:=by
          simp[execOp,resolve,eM,Deferred.ofValue]
         rw[jU,Oper.uponIn_defer]
         simp only[wpOpsIn]
         have b1:=hb.putOther ng (.func (.func f) #[] (pcaps.map a.eval))
         generalize gL:({ target := .fn (.func f) (pcaps.map a.eval),args := #[] }:Deferred)=dd
         have b2:BI N w { G with df:=dd::a.defers } st { a.put (some d) (.func (.func f) #[] (pcaps.map a.eval)) with defers:=dd::a.defers } vs nt:=⟨FI.setDf b1.fi _,b1.size⟩
         have iG:∀(w':World) (G':GS),ExtD w { G with df:=dd::a.defers } w' G'→G'.df=dd::a.defers→Clo N w' G' k0 cs:=by
          intro w' G' cL ed
          refine⟨dd,a.defers,pcaps.map a.eval,ed,by rw[← gL,ei],by simpa using dG,?_⟩
          intro i v p hv hp
          simp only[bQ,ab] at hv
          obtain⟨x,hx,rfl⟩:=hv
          have qP:Ext w { G with df:=G'.df } w' G':=cL
          exact VR.mono (mg i x p (by simpa using hx) hp).1 qP.fix qP.heap qP.shape
         have run:∀(x0:PExit) (st1:St),wr L n q st=some (x0,st1)→x0.plain=true→KQ N vs nt q x0 st1 w { G with df:=dd::a.defers } Q→wpN none fid P y Q { a.put (some d) (.func (.func f) #[] (pcaps.map a.eval)) with defers:=dd::a.defers } w:=by
          intro x0 st1 fG _ uv
          exact ih hy fG b2 (hY.sub (λz hz=>by simp[xU,hz])) (.inl rfl) hQ uv
         have dfs:∀{x0:PExit} {w':World} {G':GS},x0.plain=true→DfR q x0 w { G with df:=dd::a.defers } w' G'→G'.df=dd::a.defers:=by
          intro x0 w' G' fG hd
          have key:(∃ms,G'.df=ms++(dd::a.defers)∧Marks w w' G' ms∧(q.NR=true→ms=[]))→G'.df=dd::a.defers:=by
           rintro⟨ms,h1,_,h3⟩
           rw[h1,h3 lG]; rfl
          cases x0 with
          | after _ _ _=>simp[PExit.plain] at fG
          | normal=>exact key hd
          | exit _=>exact key hd
          | ret=>exact key hd
          | boom _=>exact key hd
         have qQ:∀{w':World} {G':GS} {v:Option PV},G'.df=dd::a.defers→DfR (.guarded k0 pcs q) (.after k0 cs v) w G w' G':=λh _=>⟨dd,by rw[h,hb.fi.defers]⟩
         split at h
         ·rename_i st1 fG
          simp only[aa,ac] at h
          obtain⟨rfl,rfl⟩:=h
          refine run .normal _ fG rfl ?_
          intro a' w' G' e he cX cL ed
          have gY:=dfs rfl ed
          exact hk a' w' G' e ⟨.inl he,iG w' G' cL gY⟩ cX cL (qQ gY)
         ·rename_i st1 fG
          simp only[aa,ac] at h
          obtain⟨rfl,rfl⟩:=h
          refine run .ret _ fG rfl ?_
          intro a' w' G' e he cX cL ed
          have gY:=dfs rfl ed
          exact hk a' w' G' e ⟨.inr he,iG w' G' cL gY⟩ cX cL (qQ gY)
         ·rename_i v st1 fG
          simp only[aa,ac] at h
          obtain⟨rfl,rfl⟩:=h
          refine run (.boom v) _ fG rfl ?_
          intro a' w' G' e he cX cL ed
          have gY:=dfs rfl ed
          exact hk a' w' G' e ⟨he,iG w' G' cL gY⟩ cX cL (qQ gY)
         ·simp at h
        ·simp at hd
       ·simp at hd
      ·simp at h
end
end PI
