import Derived.Test.YtljbhgpanekomaaGreatDoorPiSound1
import Derived.Laws.BytesArg
import Derived.Lib.ConvBytes
import Derived.MapKept
set_option linter.unusedSimpArgs false
set_option linter.unusedVariables false
set_option linter.unusedSectionVars false
namespace PI
open Go
theorem FI.extDst {N:Nm} {w w':World} {G G':GS} {st:St} {a:Act} {vs:List Tmp} {lm:Nat→Option Tmp} {j:Nat} {d:PD} {dst:Option Tmp} {v:Value} {u:PV}
  (h:FI N w G st a vs lm) (nm:Names vs lm) (hd:GZ vs lm j d dst) (da:d≠.n) (e:Ext w G w' G') (hk:xa (λk=>k=xJ d j) w G w' G')
  (hg:∀g b,G'.box g=some b→g<st.gen) (ho:∀b k,G'.ow b=some k→b<w'.heap.size) (hx:∀b o,G'.fix b o→b<w'.heap.size) (hh:G'.heap=G.heap) (hs:SR N w' G' (xJ d j) v u):
  FI N w' G' (PI.put st j d u) (a.put dst v) vs lm:=by
 cases d with
 | n=>exact absurd rfl da
 | v i =>
   obtain⟨t,rfl,ht⟩:=hd
   have cQ:=h.tv i t ht
   refine⟨by simp[PI.put,h.len],?_,?_,?_,?_,(h.defers.trans e.df.symm),hg,ho,hx,h.heap.keep e hk (by intro k hk e; subst e; simp[xJ,Key.isH] at hk),by rw[hh]; exact h.hdom⟩
   ·intro i' t' u' h1 h2
    rw[Cu _ _ _ _ cQ]
    simp only[PI.put,aI] at h2
    by_cases hi:i=i'
    ·subst hi
     have:t'=t:=by rw[ht] at h1; simpa using h1.symm
     subst this
     split at h2
     ·split at h2
      ·simp at h2; subst h2; simp only[if_true]; exact hs
      ·simp at h2
     ·exact absurd rfl ‹_›
    ·rw[ae hi] at h2
     have c9:t'≠t:=λe=>hi (nm.vnd i i' t ht (e▸h1))
     rw[ae c9]
     exact(h.var i' t' u' h1 h2).keep e hk (by simp[xJ]; omega) (by simp[xJ])
   ·intro j' t' u' h1 h2
    rw[Cu _ _ _ _ cQ,ae (λe:t'=t=>nm.sep j' t' i h1 (e▸ht))]
    exact(h.loc j' t' u' h1 h2).keep e hk (by simp[xJ]) (by simp)
   ·intro i' t' h1; simpa[Act.put] using h.tv i' t' h1
   ·intro j' t' h1; simpa[Act.put] using h.tl j' t' h1
 | l =>
   obtain⟨t,rfl,ht⟩:=hd
   have cQ:=h.tl j t ht
   refine⟨h.len,?_,?_,?_,?_,(h.defers.trans e.df.symm),hg,ho,hx,h.heap.keep e hk (by intro k hk e; subst e; simp[xJ,Key.isH] at hk),by rw[hh]; exact h.hdom⟩
   ·intro i' t' u' h1 h2
    rw[Cu _ _ _ _ cQ,ae (λe:t'=t=>nm.sep j t i' ht (e▸h1))]
    exact(h.var i' t' u' h1 h2).keep e hk (by simp[xJ]) (by simp[xJ])
   ·intro j' t' u' h1 h2
    rw[Cu _ _ _ _ cQ]
    simp only[PI.put,aI] at h2
    by_cases hj:j=j'
    ·subst hj
     have:t'=t:=by rw[ht] at h1; simpa using h1.symm
     subst this
     split at h2
     ·split at h2
      ·simp at h2; subst h2; simp only[if_true]; exact hs
      ·simp at h2
     ·exact absurd rfl ‹_›
    ·rw[ae hj] at h2
     have c9:t'≠t:=λe=>hj (nm.lnd j j' t ht (e▸h1))
     rw[ae c9]
     exact(h.loc j' t' u' h1 h2).keep e hk (by simp[xJ]; omega) (by simp)
   ·intro i' t' h1; simpa[Act.put] using h.tv i' t' h1
   ·intro j' t' h1; simpa[Act.put] using h.tl j' t' h1
theorem SR.own {N:Nm} {w:World} {G:GS} {key:Key} {v:Value} {es:List PV} (h:VR N w G.fix G.heap v (.list true es)) (hr:Room w G key v es):SR N w G key v (.list true es):=⟨h,hr⟩
structure ListR (N:Nm) (w:World) (fix:Nat→Nat→Prop) (hp:Nat→Option Nat) (size:Nat) (news:List Value) (es:List PV):Prop where
 len:news.length=es.length*size
 sz:∀e∈es,e.cells.length=size
 flat:∀e∈es,∀x∈e.cells,x.flat=true
 vr:∀(i:Nat) (e:PV),es[i]? = some e→∀(k:Nat) (c:Value) (x:PV),news[i*size+k]? = some c→e.cells[k]? = some x→VR N w fix hp c x
section
variable {E:Env} {N:Nm} {w:World} {G:GS} {st:St} {a:Act} {vs:List Tmp} {ops:List Oper} {P:Program}
variable {o:Oper} {j:Nat} {next:Act→World→Prop} {Q:Exit→Act→World→Prop} {u:PV} {st1:St}
theorem ListR.append {fix:Nat→Nat→Prop} {hp:Nat→Option Nat} {size:Nat} {xs ys:List Value} {es fs:List PV} (h:ListR N w fix hp size xs es) (k:ListR N w fix hp size ys fs) (hs:size≠0):
  ListR N w fix hp size (xs++ys) (es++fs):=by
 refine⟨by simp[h.len,k.len,aO],?_,?_,?_⟩
 ·intro e he; rcases aw.1 he with he|he
  ·exact h.sz e he
  ·exact k.sz e he
 ·intro e he; rcases aw.1 he with he|he
  ·exact h.flat e he
  ·exact k.flat e he
 ·intro i e he m c x hc hx
  by_cases hi:i<es.length
  ·rw[al hi] at he
   have hm:m<size:=by have:=(aj.1 hx).1; have:=h.sz e (av he); omega
   rw[al (by rw[h.len]; exact G9 hi hm)] at hc
   exact h.vr i e he m c x hc hx
  ·rw[ap (by omega)] at he
   have kY:xs.length≤i*size+m:=by
    rw[h.len]
    have:es.length*size≤i*size:=bi _ (by omega)
    omega
   rw[ap kY,h.len] at hc
   refine k.vr _ e he m c x ?_ hx
   rw[show (i - es.length)*size+m=i*size+m - es.length*size by
    rw[Nat.sub_mul]
    have:es.length*size≤i*size:=bi _ (by omega)
    omega]
   exact hc
theorem ListR.mono {w':World} {fix fix':Nat→Nat→Prop} {hp ek:Nat→Option Nat} {size:Nat} {xs:List Value} {es:List PV} (h:ListR N w fix hp size xs es)
  (hf:∀b o,fix b o→fix' b o∧w'.cell? ⟨b,o,none⟩=w.cell? ⟨b,o,none⟩) (hh:∀n b,hp n=some b→ek n=some b) (hs:ShapeLe w w'):ListR N w' fix' ek size xs es:=
 ⟨h.len,h.sz,h.flat,λi e he k c x hc hx=>(h.vr i e he k c x hc hx).mono hf hh hs⟩
theorem ListR.one {fix:Nat→Nat→Prop} {hp:Nat→Option Nat} {size:Nat} {xs:List Value} {es:List PV} (h:ListR N w fix hp size xs es) (hs:size≠0):∀c∈xs,c.oneCell'=true:=by
 intro c hc
 obtain⟨m,hm⟩:=bb.1 hc
 have cO:m<es.length*size:=by have:=(aj.1 hm).1; rw[h.len] at this; exact this
 have hi:m / size<es.length:=by rw[Nat.div_lt_iff_lt_mul (by omega)]; exact cO
 have hk:m % size<size:=bW _ (by omega)
 have he:=aq hi
 have dW:=av he
 have kL:m % size<(es[m / size]).cells.length:=by rw[h.sz _ dW]; exact hk
 have hx:=aq kL
 have vD:m / size*size+m % size=m:=by rw[Nat.mul_comm]; exact Nat.div_add_mod m size
 have h1:=(h.vr _ _ he _ c _ (by rw[vD]; exact hm) hx).oneCell (h.flat _ dW _ (av hx))
 cases c<;>first|rfl|simp[oneCell] at h1
theorem Ki {fix:Nat→Nat→Prop} {hp:Nat→Option Nat} {size:Nat} {v:Value} {own:Bool} {es:List PV} (h:VR N w fix hp v (.list own es)) (hh:wL size es=true):
  ∃ news, ListR N w fix hp size news es ∧ ((v = .slice none 0 0 ∧ es = [] ∧ news = []) ∨ (∃ ad cap, v = .slice (some ad) 0 cap ∧ es = [] ∧ news = []) ∨
    ∃b off cap,v = .slice (some ⟨b,off,none⟩) es.length cap∧es.length≤cap∧∀(j:Nat) (u:Value),news[j]? = some u→w.cell? ⟨b,off+j,none⟩=some u∧fix b (off+j)):=by
 cases h with
 | nils=>exact⟨[],⟨by simp,by simp,by simp,by simp⟩,.inl ⟨rfl,rfl,rfl⟩⟩
 | void _ ad cap=>exact⟨[],⟨by simp,by simp,by simp,by simp⟩,.inr (.inl ⟨ad,cap,rfl,rfl,rfl⟩)⟩
 | list _ b off len cap sz _ cv cK cT cQ cS hcell cR =>
   subst cK
   by_cases h0:es=[]
   ·subst h0
    exact⟨[],⟨by simp,by simp,by simp,by simp⟩,.inr (.inr ⟨b,off,cap,rfl,cT,by simp⟩)⟩
   ·have hs:sz=size:=by
     cases es with
     | nil=>exact absurd rfl h0
     | cons y ys =>
       have:=cQ y (by simp)
       simp[wL] at hh
       omega
    subst hs
    refine⟨(List.range (es.length*sz)).map cv,⟨by simp,cQ,cS,?_⟩,.inr (.inr ⟨b,off,cap,rfl,cT,?_⟩)⟩
    ·intro i e he k c x hc hx
     simp only[aA,ab] at hc
     obtain⟨m,hm,rfl⟩:=hc
     have:m=i*sz+k:=by
      have:=(aj.1 hm)
      obtain⟨h1,h2⟩:=this
      simp at h2; exact h2.symm
     subst this
     exact cR i e he k x hx
    ·intro j u hu
     simp only[aA,ab] at hu
     obtain⟨m,hm,rfl⟩:=hu
     have ky:m=j∧j<es.length*sz:=by
      obtain⟨h1,h2⟩:=aj.1 hm
      simp at h1 h2; exact⟨h2.symm,h1⟩
     obtain⟨rfl,cO⟩:=ky
     exact hcell m cO
theorem Hb {fix:Nat→Nat→Prop} {hp:Nat→Option Nat} {size b off cap:Nat} {own:Bool} {es:List PV} {news:List Value} (h:ListR N w fix hp size news es) (cT:es.length≤cap)
  (hc:∀(j:Nat) (u:Value),news[j]? = some u→w.cell? ⟨b,off+j,none⟩=some u∧fix b (off+j)):VR N w fix hp (.slice (some ⟨b,off,none⟩) es.length cap) (.list own es):=by
 refine .list own b off es.length cap size es (λk=>news.getD k undef) rfl cT h.sz h.flat ?_ ?_
 ·intro k hk
  have cO:k<news.length:=by rw[h.len]; exact hk
  have:=hc k news[k] (aq cO)
  simpa[List.getD,aq cO] using this
 ·intro i e he k x hx
  have hk:k<size:=by have:=(aj.1 hx).1; have:=h.sz e (av he); omega
  have hi:i<es.length:=(aj.1 he).1
  have cO:i*size+k<news.length:=by rw[h.len]; exact G9 hi hk
  have:=h.vr i e he k news[i*size+k] x (aq cO) hx
  simpa[List.getD,aq cO] using this
theorem Hc (P:Program) (g o:Nat) (t:TypeId) (fz:Nat×Nat):∀(vs:List Value) (i:Nat) (cur:Array Value) (w:World),w.heap[g]? = some (.cells cur t fz)→(∀o,o<cur.size→¬(fz.1≤o∧o<fz.2))→o+i+vs.length≤cur.size→(∀v∈vs,v.oneCell'=true) →
  (storeCells ⟨g,o,none⟩ vs i).run P w = .ok () (w.setRow g (cur.toList.take (o+i)++vs++cur.toList.drop (o+i+vs.length)).toArray)
 | [], i, cur, w, hg, _, _, _ => by
   simp only[storeCells,aW,bO,bo,bM,Array.toArray_toList]
   rw[setRow_self w g cur t fz hg]
   rfl
 | v :: rest, i, cur, w, hg, hz, hl, h1 => by
   have hi:o+i<cur.size:=by simp at hl; omega
   have dA:(⟨g,o,none⟩:Addr).add i=⟨g,o+i,none⟩:=by unfold Addr.add; split<;>simp_all
   have hcell:w.cell? ⟨g,o+i,none⟩=some cur[o+i]:=by simp[World.cell?,hg,hi]
   have sb:w.frozen? ⟨g,o+i,none⟩=false:=by
    have:=hz _ hi
    obtain⟨lo,il⟩:=fz
    simp only at this
    simp only[World.frozen?,hg,Bool.and_eq_false_iff,bZ]
    omega
   have dx:(store ((⟨g,o,none⟩:Addr).add i) v).run P w = .ok () (w.setRow g (cur.setIfInBounds (o+i) v)):=by
    rw[dA,run_store P w _ v _ (h1 v (by simp)),hcell]
    simp[sb,setCell_eq_setRow w g (o+i) cur t fz v hg]
   have ih:=Hc P g o t fz rest (i+1) (cur.setIfInBounds (o+i) v) (w.setRow g (cur.setIfInBounds (o+i) v)) (setRow_heap w g cur _ t _ hg) (by simpa using hz) (by simp at hl ⊢; omega) (λx hx=>h1 x (by simp[hx]))
   simp only[storeCells,Sem.run_bind,dx,Result.andThen_ok,ih,setRow_setRow]
   congr 3
   have e:=list_seg_step cur.toList (o+i) v rest (by simp at hl ⊢; omega)
   simpa[Array.toList_setIfInBounds,bX] using e
theorem O2 (hE:EnvOk E N) (nm:Names vs (vS vs ops)) (ho:ops[j]? = some o) (hf:FI N w G st a vs (vS vs ops)) {ts tx e:TypeId} {size:Nat} {z:List PV} {s x:Operand} {ps:PX}
  (cL:o.op = .call { callee := .builtin .append,args := #[s,x],argTypes := #[ts,tx] }) (dU:wv vs o.dst≠.n) (ej:P.underlying ts=some (.slice e)) (hn:wx P e=some size) (hz:xN P e=some z)
  (iW:cx E vs ops s=some ps) {es xs:List PV} {st':St} (ec:tk st ps=some (.list true es,st')) (lk:wL size es=true) (cK:es.length+xs.length≤9223372036854775807) (et:(es.length+xs.length)*P.bytesOf e≤140737488355328)
  {news:List Value} (fg:ListR N w G.fix G.heap size news xs) (dM:Src P size tx (a.eval x) xs.length news w)
  (hk:wn N w G a st' (.list true (es++xs)) vs ops j o next):o.wp P a w next Q:=by
 obtain⟨i,d,hi,gA,fD,hd⟩:=yt hn
 obtain⟨i2,zv,dK,ja,_,lC,gB,_⟩:=BG (N:=N) (w:=w) (fix:=G.fix) (hp:=G.heap) hz
 have:i2=i:=by rw[hi] at dK; simpa using dK.symm
 subst this
 subst gA
 have ge:zv.cells.size=i2.size:=by have:=gB.1; simp at this; omega
 have fY:P.bytesOf e=i2.bytes:=by simp[Program.bytesOf,hi]
 rw[fY] at et
 obtain⟨G1,db,dP,ii,eD,dC,cR,ff,_,vE,_⟩:=DV hE iW hf ec (xJ (wv vs o.dst) j)
 obtain⟨olds,pd,dY⟩:=Ki cR lk
 have dm:Room w G1 (xJ (wv vs o.dst) j) (a.eval s) es:=ff
 have gC:∀v w',(Builtin.append_ #[ts,tx] o.type #[a.eval s,a.eval x]).run P w = .ok v w'→(execOp a.eval o).run P w = .ok (.value v) w':=by
  intro v w' hr
  simp[execOp,cL,resolve,invoke,builtin,hr]
 have pe:ListR N w G1.fix G1.heap i2.size news xs:=by rw[eD,dC]; exact fg
 have pg:ListR N w G1.fix G1.heap i2.size olds es:=by rw[eD,dC]; exact pd
 have mK:VR N w G1.fix G1.heap (a.eval s) (.list true es):=by rw[eD,dC]; exact cR
 have finish:∀(v:Value) (w':World) (G':GS),(Builtin.append_ #[ts,tx] o.type #[a.eval s,a.eval x]).run P w = .ok v w'→Ext w G1 w' G'→xa (λk=>k=xJ (wv vs o.dst) j) w G1 w' G' →
   (∀g b,G'.box g=some b→G1.box g=some b)→(∀b k,G'.ow b=some k→b<w'.heap.size)→(∀b o,G'.fix b o→b<w'.heap.size)→G'.heap=G1.heap→VR N w' G'.fix G'.heap v (.list true (es++xs))→Room w' G' (xJ (wv vs o.dst) j) v (es++xs) →
   o.wp P a w next Q:=by
  intro v w' G' hr cJ cN rX how fl hh hv pj
  unfold Oper.wp
  rw[gC v w' hr]
  refine hk _ _ G' (db.extDst nm (yI ho) dU cJ cN ?_ how fl hh (SR.own hv pj)) (dP.trans cJ) (yJ _ _ _)
  intro g b hb
  exact db.gen g b (rX g b hb)
 by_cases jb:∃base cap,a.eval s = .slice base es.length cap∧cap<es.length+xs.length
 ·
  obtain⟨base,cap,hv,cT⟩:=jb
  have gD:(Builtin.firstCells i2.size es.length (.slice base es.length cap)).run P w.drew = .ok olds.toArray w.drew:=by
   rcases dY with⟨h1,h2,h3⟩|⟨ad,cap',h1,h2,h3⟩|⟨b,off,cap',h1,h2,h3⟩
   ·rw[hv] at h1; simp at h1
    obtain⟨rfl,_,rfl⟩:=h1
    subst h3
    exact run_firstCells_none w.drew _ _ _ _
   ·rw[hv] at h1; simp at h1
    obtain⟨rfl,_,rfl⟩:=h1
    subst h3
    rw[h2]
    exact run_firstCells_some w.drew _ _ _ _ _ [] (by simp) (by simp)
   ·rw[hv] at h1; simp at h1
    obtain⟨rfl,rfl⟩:=h1
    exact run_firstCells_some w.drew _ _ _ _ _ olds pd.len (λj u hu=>by rw[zk]; exact(h3 j u hu).1)
  have gy:Builtin.nextslicecap (es.length+xs.length) cap*i2.bytes≤281474976710656:=by
   exact growslice_fits cT et
  have cM:=run_append_grow_src (P:=P) w ts tx o.type e i2 zv ej hi ja base es.length cap olds gD (a.eval x) xs.length news dM cT (by omega) gy
  rw[← hv] at cM
  have fq:∀o,¬G1.fix w.heap.size o:=λo h=>by have:=db.fixlt _ _ h; omega
  have fJ:=grownCap_ge w (es.length+xs.length) cap e
  let CS:Array Value:=(olds++news).toArray++Builtin.zeroCells zv.cells (grownCap w (es.length+xs.length) cap e - (es.length+xs.length))
  let G':GS:={ G1 with fix:=λb o=>G1.fix b o∨(b=w.heap.size∧o<(es.length+xs.length)*i2.size),ow:=λb=>if b=w.heap.size then some (xJ (wv vs o.dst) j) else G1.ow b }
  have hR:=pg.append pe fD
  have sc:CS.size=grownCap w (es.length+xs.length) cap e*i2.size:=by
   simp only[CS,bH,cr,size_zeroCells,ge,hR.len,ax]
   rw[Nat.sub_mul]
   have:(es.length+xs.length)*i2.size≤grownCap w (es.length+xs.length) cap e*i2.size:=bi _ fJ
   omega
  have cJ:Ext w G1 (w.drew.alloc (.cells CS e)) G':=by
   refine⟨rfl,rfl,rfl,by simp,λb hb _=>yr (w:=w.drew) hb,λb o h=>⟨.inl h,CE (w:=w.drew) (db.fixlt _ _ h)⟩,?_,?_,λ_ _ h=>h,.same λk hk=>yr (w:=w.drew) hk,rfl⟩
   ·rintro b o (h|h)
    ·exact .inl h
    ·exact .inr (.inl (by omega))
   ·intro b hb
    simp only[G'] at hb
    split at hb
    ·exact .inl (by omega)
    ·exact .inr hb
  refine finish _ _ G' cM cJ ?_ (λ_ _ h=>h) ?_ ?_ rfl ?_ ?_
  ·refine⟨?_,λ_ _ h=>h⟩
   intro b k hb _
   have cO:=db.owlt _ _ hb
   refine⟨?_,yr (w:=w.drew) cO,?_⟩
   ·simp only[G']; rw[ae (by omega)]; exact hb
   ·rintro o (h|h)
    ·exact h
    ·omega
  ·intro b k hb
   simp only[G'] at hb
   split at hb
   ·simp; omega
   ·have:=db.owlt _ _ hb; simp; omega
  ·rintro b o (h|h)
   ·have:=db.fixlt _ _ h; simp; omega
   ·simp; omega
  ·have dN:(es++xs).length=es.length+xs.length:=by simp
   have dL:VR N (w.drew.alloc (.cells CS e)) G'.fix G'.heap (.slice (some ⟨w.heap.size,0,none⟩) (es++xs).length (grownCap w (es.length+xs.length) cap e)) (.list true (es++xs)) := ?_
   ·rw[dN] at dL; exact dL
   refine Hb (hR.mono cJ.fix cJ.heap cJ.shape) (by rw[dN]; exact fJ) ?_
   intro j' u' hu
   have cO:j'<(olds++news).length:=(aj.1 hu).1
   refine⟨?_,.inr ⟨rfl,by rw[hR.len,dN] at cO; omega⟩⟩
   rw[aR]
   have:=World.cell?_alloc_new w.drew CS e j'
   refine this.trans ?_
   simp only[CS]
   rw[bk (by simpa using cO)]
   simpa using hu
  ·refine .inr ⟨by simp[G'],i2.size,CS,e,hR.sz,.of (AE (w:=w.drew)),by rw[sc]; simp,by omega,?_⟩
   rintro o' eE (h|h)
   ·exact fq _ h
   ·simp at eE; omega
 ·
  have jT:∃base cap,a.eval s = .slice base es.length cap:=by
   rcases dY with⟨h1,h2,_⟩|⟨ad,cap,h1,h2,_⟩|⟨b,off,cap,h1,_⟩
   ·exact⟨none,0,by rw[h1,h2]; rfl⟩
   ·exact⟨some ad,cap,by rw[h1,h2]; rfl⟩
   ·exact⟨_,cap,h1⟩
  obtain⟨base,cap,hv⟩:=jT
  have eg:es.length+xs.length≤cap:=by
   rcases Nat.lt_or_ge cap (es.length+xs.length) with h|h
   ·exact absurd ⟨base,cap,hv,h⟩ jb
   ·exact h
  by_cases fv:xs=[]
  ·subst fv
   have iC:news=[]:=by have:=fg.len; simpa using this
   subst iC
   have cM:(Builtin.append_ #[ts,tx] o.type #[a.eval s,a.eval x]).run P w = .ok (a.eval s) w:=by
    rw[hv]
    have sd:es.length≤cap:=by simpa using eg
    have iU:(Builtin.lenOf (a.eval x)).run P w = .ok 0 w:=by simpa using dM.len w
    have jY:(Builtin.firstCells i2.size 0 (a.eval x)).run P w = .ok #[] w:=by simpa using dM.cells
    rcases dM.kind with⟨e'',dg⟩|dg <;>
     cases base<;>simp[Builtin.append_,run_underlying ej,run_underlying dg,Go.sizeOf,typeInfo,hi,iU,sd,jY,storeCells]
   refine finish _ w G1 cM (Ext.refl _ _) ⟨λb k h _=>⟨h,rfl,λ_ h=>h⟩,λ_ _ h=>h⟩ (λ_ _ h=>h) db.owlt db.fixlt rfl (by simpa using mK) (by simpa using dm)
  ·
   have sH:0<xs.length:=bQ.2 fv
   rcases dY with⟨h1,h2,_⟩|⟨ad,cap',h1,h2,_⟩|⟨b,off,cap',h1,h2,h3⟩
   ·rw[hv] at h1; simp at h1; omega
   ·have se:base=some ad∧cap=cap':=by rw[hv,h2] at h1; simpa using h1
    obtain⟨rfl,rfl⟩:=se
    rw[hv] at dm
    rw[h2] at dm eg
    rcases dm with dm|⟨_,_,_,_,_,_,_,dI,_⟩
    ·simp at eg dm; omega
    ·simp at dI
   ·have se:base=some ⟨b,off,none⟩∧cap=cap':=by rw[hv] at h1; simpa using h1
    obtain⟨rfl,rfl⟩:=se
    rw[hv] at dm
    rcases dm with dm|⟨how,sz,cur,T,cQ,⟨fz,dQ,mL⟩,gy,dI,dV⟩
    ·omega
    ·have sf:sz=i2.size:=by
      cases es with
      | nil=>simp at dI
      | cons y ys=>have:=cQ y (by simp); have:=pd.sz y (by simp); omega
     subst sf
     simp only at how dQ gy dV mL
     have sg:off+es.length*i2.size+news.length≤cur.size:=by
      rw[fg.len]
      have:(es.length+xs.length)*i2.size≤cap*i2.size:=bi _ eg
      rw[aO] at this; omega
     let NR:Array Value:=(cur.toList.take (off+es.length*i2.size)++news++cur.toList.drop (off+es.length*i2.size+news.length)).toArray
     have cM:(Builtin.append_ #[ts,tx] o.type #[a.eval s,a.eval x]).run P w = .ok (.slice (some ⟨b,off,none⟩) (es.length+xs.length) cap) (w.setRow b NR):=by
      have dx:=Hc P b (off+es.length*i2.size) T fz news 0 cur w dQ mL (by simpa using sg) (fg.one fD)
      simp only[bo] at dx
      rw[hv]
      rcases dM.kind with⟨e'',dg⟩|dg <;>
       simp[Builtin.append_,run_underlying ej,run_underlying dg,Go.sizeOf,typeInfo,hi,dM.len,eg,dM.cells,zk,dx,NR]
     have eX:b<w.heap.size:=db.owlt _ _ how
     have cU:∀x,x≠b→(w.setRow b NR).heap[x]? = w.heap[x]? := λx hx=>setRow_other w b x _ hx
     let G':GS:={ G1 with fix:=λb' o=>G1.fix b' o∨(b'=b∧off+es.length*i2.size≤o∧o<off+(es.length+xs.length)*i2.size) }
     have jz:NR.size=cur.size:=by simp only[NR,cr,ax,bB,cA,aV]; omega
     have qt:∀k,k<off+es.length*i2.size→NR[k]? = cur[k]? := by
      intro k hk
      simp only[NR,bC,aJ]
      rw[al (by simp; omega),aP,ah hk]
      simp
     have sh:∀k,k<news.length→NR[off+es.length*i2.size+k]? = news[k]? := by
      intro k hk
      have hl:(cur.toList.take (off+es.length*i2.size)).length=off+es.length*i2.size:=by simp; omega
      simp only[NR,bC,aJ]
      rw[ap (by omega),hl,al (by omega)]
      congr 1; omega
     have kl:∀k,(w.setRow b NR).cell? ⟨b,k,none⟩=NR[k]? := λk=>cell_setRow_same w b k cur NR T fz dQ
     have cJ:Ext w G1 (w.setRow b NR) G':=by
      refine⟨rfl,rfl,rfl,by simp[World.setRow],?_,?_,?_,λ_ h => .inr h,λ_ _ h=>h,Fh dQ _ jz,rfl⟩
      ·intro y _ ju
       exact cU y (by rintro rfl; rw[how] at ju; simp at ju)
      ·intro y o' fl
       refine⟨.inl fl,?_⟩
       by_cases jc:y=b
       ·subst jc
        have cO:o'<off+es.length*i2.size:=by
         rcases Nat.lt_or_ge o' (off+es.length*i2.size) with h|h
         ·exact h
         ·exact absurd fl (dV o' h)
        rw[kl,qt o' cO]
        simp[World.cell?,dQ]
       ·simp only[World.cell?,cU y jc]
      ·rintro y o' (h|h)
       ·exact .inl h
       ·exact .inr (.inr (by rw[h.1,how]; simp))
     refine finish _ _ G' cM cJ ?_ (λ_ _ h=>h) (λy k hy=>by simpa[World.setRow] using db.owlt y k hy) ?_ rfl ?_ ?_
     ·refine⟨?_,λ_ _ h=>h⟩
      intro y k hy gp
      have jc:y≠b:=by rintro rfl; rw[how] at hy; simp at hy; exact gp hy.symm
      refine⟨hy,cU y jc,?_⟩
      rintro o' (h|h)
      ·exact h
      ·exact absurd h.1 jc
     ·rintro y o' (h|h)
      ·simpa[World.setRow] using db.fixlt _ _ h
      ·simp[World.setRow]; omega
     ·have dN:(es++xs).length=es.length+xs.length:=by simp
      rw[← dN]
      refine Hb ((pg.append pe fD).mono cJ.fix cJ.heap cJ.shape) (by rw[dN]; exact eg) ?_
      intro k u' hu
      by_cases gn:k<olds.length
      ·rw[al gn] at hu
       obtain⟨c1,c2⟩:=h3 k u' hu
       have:=cJ.fix b (off+k) (by rw[eD]; exact c2)
       exact⟨this.2.trans c1,this.1⟩
      ·rw[ap (by omega)] at hu
       have cO:k - olds.length<news.length:=(aj.1 hu).1
       have he:off+k=off+es.length*i2.size+(k - olds.length):=by have:=pd.len; omega
       refine⟨?_,.inr ⟨rfl,?_,?_⟩⟩
       ·rw[kl,he,sh _ cO]; exact hu
       ·rw[he]; omega
       ·rw[he,aO]; have:=fg.len; omega
     ·refine .inr ⟨how,i2.size,NR,T,?_,⟨fz,setRow_heap w b cur NR T fz dQ,λo ho=>mL o (by rw[← jz]; exact ho)⟩,?_,by omega,?_⟩
      ·intro y hy
       rcases aw.1 hy with hy|hy
       ·exact pd.sz y hy
       ·exact fg.sz y hy
      ·simp only[NR,cr,ax,bB,cA,aV]; omega
      ·rintro o' eE (h|h)
       ·refine dV o' ?_ h
        simp only[ax,aO] at eE
        omega
       ·simp only[ax,aO] at eE
        have:=h.2.2
        rw[aO] at this
        omega
theorem b59 (hE:EnvOk E N) (nm:Names vs (vS vs ops)) (ho:ops[j]? = some o) (hf:FI N w G st a vs (vS vs ops)) {ts tx e e':TypeId} {size:Nat} {z:List PV} {s x:Operand} {ps px:PX}
  (cL:o.op = .call { callee := .builtin .append,args := #[s,x],argTypes := #[ts,tx] }) (dU:wv vs o.dst≠.n) (ej:P.underlying ts=some (.slice e)) (f0:P.underlying tx=some (.slice e')) (hn:wx P e=some size) (hz:xN P e=some z)
  (iW:cx E vs ops s=some ps) (hx:cx E vs ops x=some px) {cf:vZ} (hs:opv cf (.append size (P.bytesOf e) ps px) st=some (u,st1)) (hk:wn N w G a st1 u vs ops j o next):o.wp P a w next Q:=by
 simp only[opv] at hs
 split at hs
 ·rename_i xs es st' pn ec
  split at hs
  ·rename_i cP
   obtain⟨lk,gx,km⟩:=cP
   have cK:es.length+xs.length≤9223372036854775807:=by rcases km with⟨h,_⟩|⟨h,_⟩<;>omega
   have et:(es.length+xs.length)*P.bytesOf e≤140737488355328:=by
    rcases km with⟨h,h'⟩|⟨_,h⟩
    ·exact aL (Nat.mul_le_mul h h') (by decide)
    ·exact h
   simp only[aa,ac] at hs
   obtain⟨rfl,rfl⟩:=hs
   simp only[af] at pn
   obtain⟨px0,iS,ko⟩:=pn
   have gg:=(wB hE hx hf iS).1.row ko
   obtain⟨news,fg,si⟩:=Ki gg gx
   obtain⟨_,_,_,_,fD,_⟩:=yt hn
   have dM:Src P size tx (a.eval x) xs.length news w:=by
    rcases si with⟨h1,h2,h3⟩|⟨ad,cap,h1,h2,h3⟩|⟨b,off,cap,h1,h2,h3⟩
    ·rw[h1,h2,h3]; exact Src.ofNil w f0 0
    ·rw[h1,h2,h3]; exact Src.ofSlice w f0 ad 0 cap [] (by simp) (by simp) (by simp)
    ·rw[h1]
     exact Src.ofSlice w f0 ⟨b,off,none⟩ xs.length cap news fg.len (λj u hu=>by rw[zk]; exact(h3 j u hu).1) (fg.one fD)
   exact O2 hE nm ho hf cL dU ej hn hz iW ec lk cK et fg dM hk
  ·simp at hs
 ·simp at hs
theorem O3 (fix:Nat→Nat→Prop) (hp:Nat→Option Nat) (s:ByteArray):ListR N w fix hp 1 (byteCells s) (z8 s.data.toList):=by
 refine⟨by rw[byteCells_length,Nat.mul_one]; simp only[z8,aS,aV]; rfl,?_,?_,?_⟩
 ·intro e he
  obtain⟨b,_,rfl⟩:=aM.1 he
  rfl
 ·intro e he x hx
  obtain⟨b,_,rfl⟩:=aM.1 he
  simp only[PV.cells,bg] at hx
  subst hx; rfl
 ·intro i e he k c x hc hx
  simp only[z8,aA,ab] at he
  obtain⟨b,hb,rfl⟩:=he
  cases k with
  | zero =>
    simp only[PV.cells,ci,aa] at hx
    subst hx
    simp only[byteCells,Nat.mul_one,bo,aA,ab] at hc
    obtain⟨b',cX,rfl⟩:=hc
    rw[hb] at cX; cases cX
    exact .int _ _
  | succ k=>simp[PV.cells] at hx
theorem b7h (s:List UInt8):(z8 s).length=s.length:=by simp[z8]
theorem b6b (hE:EnvOk E N) (nm:Names vs (vS vs ops)) (ho:ops[j]? = some o) (hf:FI N w G st a vs (vS vs ops)) {ts tx e:TypeId} {z:List PV} {s x:Operand} {ps px:PX}
  (cL:o.op = .call { callee := .builtin .append,args := #[s,x],argTypes := #[ts,tx] }) (dU:wv vs o.dst≠.n) (ej:P.underlying ts=some (.slice e)) (f0:P.underlying tx=some .string) (hn:wx P e=some 1) (hz:xN P e=some z) (eH:P.bytesOf e=1)
  (iW:cx E vs ops s=some ps) (hx:cx E vs ops x=some px) {cf:vZ} (hs:opv cf (.appstr ps px) st=some (u,st1)) (hk:wn N w G a st1 u vs ops j o next):o.wp P a w next Q:=by
 simp only[opv] at hs
 split at hs
 ·rename_i xs es st' iS ec
  split at hs
  ·rename_i cP
   obtain⟨lk,cK⟩:=cP
   simp only[aa,ac] at hs
   obtain⟨rfl,rfl⟩:=hs
   have gg:=(wB hE hx hf iS).1
   generalize hv:a.eval x=v at gg
   cases gg with
   | str s0 =>
     have hl:(z8 s0.data.toList).length=s0.size:=by simp only[z8,aS,aV]; rfl
     have em:s0.data.toList.length=s0.size:=aV
     refine O2 (xs:=z8 s0.data.toList) (news:=byteCells s0) hE nm ho hf cL dU ej hn hz iW ec lk (by omega) (by rw[eH]; omega) (O3 _ _ _) ?_ hk
     rw[hv,hl]
     exact Src.ofString w f0 s0
  ·simp at hs
 ·simp at hs
theorem b4t {fix:Nat→Nat→Prop} {hp:Nat→Option Nat} {v:Value} {es:List PV} {bs:List UInt8} (h:VR N w fix hp v (.list false es)) (hb:bytesOf es=some bs):
  (∃l c,v = .slice none l c∧bs=[])∨∃ad c,v = .slice (some ad) bs.length c∧((bs=[])∨(ad.spot=none∧∀i,i<bs.length→w.cell? ⟨ad.block,ad.off+i,none⟩=some (.int .u8 ((bs.map λb=>(b.toNat:Int)).getD i 0)))):=by
 have key:∀{es:List PV} {bs:List UInt8},bytesOf es=some bs→es.length=bs.length∧∀(i:Nat) (e:PV),es[i]? = some e→e = .int .u8 ((bs.map λb=>(b.toNat:Int)).getD i 0):=by
  intro es
  induction es with
  | nil=>intro bs h; simp[bytesOf] at h; subst h; simp
  | cons x xs ih =>
    intro bs h
    unfold bytesOf at h
    split at h
    ·rename_i h0; simp at h0
    ·rename_i n r h0
     simp only[bq] at h0
     obtain⟨rfl,rfl⟩:=h0
     split at h
     ·rename_i hn
      simp only[ab] at h
      obtain⟨bs',h1,rfl⟩:=h
      obtain⟨k1,k2⟩:=ih h1
      refine⟨by simp[k1],?_⟩
      intro i e he
      cases i with
      | zero =>
        simp at he; subst he
        have:(UInt8.ofNat n.toNat).toNat=n.toNat:=by simp[UInt8.toNat_ofNat']; omega
        simp[this]; omega
      | succ i =>
        have:=k2 i e (by simpa using he)
        simpa using this
     ·simp at h
    ·simp at h
 obtain⟨k1,k2⟩:=key hb
 cases h with
 | nils=>simp at k1; exact .inl ⟨_,_,rfl,List.eq_nil_of_length_eq_zero k1.symm⟩
 | void _ ad cap=>simp at k1; refine .inr ⟨ad,cap,?_,.inl (List.eq_nil_of_length_eq_zero k1.symm)⟩; rw[← k1]
 | list _ b off len cap sz _ cv cK cT cQ cS hcell cR =>
   refine .inr ⟨⟨b,off,none⟩,cap,by rw[← k1,cK],.inr ⟨rfl,?_⟩⟩
   intro i hi
   have cO:i<es.length:=by omega
   have he:=aq cO
   have eu:=k2 i _ he
   have d7:sz=1:=by rw[← cQ _ (ai cO),eu]; rfl
   subst d7
   have h1:=cR i _ he 0 (es[i]) (by rw[eu]; rfl)
   rw[eu] at h1
   have h2:=(hcell i (by omega)).1
   rw[Nat.mul_one,bo] at h1
   generalize hg:cv i=c at h1 h2
   cases h1
   exact h2
theorem b0C (bs:List UInt8):strOfNums (bs.map λb=>(b.toNat:Int))=⟨bs.toArray⟩:=by
 have:=strOfNums_data (bs.map λb=>(b.toNat:Int))
 have h2:(strOfNums (bs.map λb=>(b.toNat:Int))).data.toList=bs:=by
  rw[this,List.map_map]
  conv=>rhs; rw[← List.map_id bs]
  apply List.map_congr_left
  intro b _
  simp
 generalize strOfNums (bs.map λb=>(b.toNat:Int))=x at h2
 cases x with
 | mk d=>simp at h2; subst h2; simp
theorem c0P (hE:EnvOk E N) (nm:Names vs (vS vs ops)) (ho:ops[j]? = some o) (hf:FI N w G st a vs (vS vs ops)) {src dst e:TypeId} {x:Operand} {px:PX} (cL:o.op = .convert src dst x)
  (d7:P.underlying src=some (.slice e)) (he:P.underlying e=some (.int .u8)) (hd:P.underlying dst=some .string) (hx:cx E vs ops x=some px) {cf:vZ} (hs:opv cf (.b2s px) st=some (u,st1)) (hk:wn N w G a st1 u vs ops j o next):o.wp P a w next Q:=by
 simp only[opv] at hs
 split at hs
 ·rename_i es iS
  simp only[ab,ac] at hs
  obtain⟨bs,r9,rfl,rfl⟩:=hs
  simp only[af] at iS
  obtain⟨p0,pK,ko⟩:=iS
  have hv:=(wB hE hx hf pK).1.row ko
  have cM:(convert src dst (a.eval x)).run P w = .ok (.string ⟨bs.toArray⟩) w:=by
   rcases b4t hv r9 with⟨l,c,h1,rfl⟩|⟨ad,c,h1,h2⟩
   ·rw[h1,run_convert_bytes_nil (w:=w) src e d7 he l c dst hd]; rfl
   ·rw[h1]
    rcases h2 with rfl|⟨gj,h2⟩
    ·rw[run_convert_bytes_string w src dst e _ _ _ d7 he hd]
     have:=run_bytesToString (P:=P) w ad 0 c [] (by simpa using run_loadCells_list (P:=P) w ad [] (by simp))
     exact this
    ·obtain⟨b,off,sp⟩:=ad
     simp only at gj; subst gj
     have:=run_convert_bytes_arg (w:=w) src e d7 he b off bs.length c (bs.map λb=>(b.toNat:Int)) (by simp) h2 dst hd
     rw[this,b0C]
  refine wD (v := .string ⟨bs.toArray⟩) nm ho hf (by simp[execOp,cL,cM]) (SR.of_pure ?_ rfl) hk
  have:=VR.str (N:=N) (w:=w) (fix:=G.fix) (hp:=G.heap) ⟨bs.toArray⟩
  simpa using this
 ·simp at hs
theorem b28 (hE:EnvOk E N) (nm:Names vs (vS vs ops)) (ho:ops[j]? = some o) (hf:FI N w G st a vs (vS vs ops)) {t e:TypeId} {n:Nat} {x:Operand} {px:PX} (cL:o.op = .slice t x none none none)
  (hu:P.underlying t=some (.array n e)) (hn:wx P e=some 1) (hx:cx E vs ops x=some px) {cf:vZ} (hs:opv cf (.sliceLoc n px) st=some (u,st1)) (hk:wn N w G a st1 u vs ops j o next):o.wp P a w next Q:=by
 simp only[opv] at hs
 split at hs
 ·rename_i i g cs fk
  split at hs
  ·rename_i cK
   simp only[aa,ac] at hs
   obtain⟨rfl,rfl⟩:=hs
   have pX:st.vars[i]? = some (.loc g cs):=fk
   have pp:=Bf hE hx hf fk
   obtain⟨b0,i0,lw,hv,gS,_⟩:=pp
   obtain⟨tt,nj,kF,kI,ib,cv,T,hh,hl,hc⟩:=Ha hf pX gS
   obtain⟨hR,hcell⟩:=HG hh hl hc
   let G':GS:={ G with fix:=λb o=>G.fix b o∨b=b0 }
   have cJ:Ext w G w G':=by
    refine⟨rfl,rfl,rfl,ao _,λ_ _ _=>rfl,λ_ _ h=>⟨.inl h,rfl⟩,?_,λ_ h => .inr h,λ_ _ h=>h,ShapeLe.refl w,rfl⟩
    rintro b o (h|h)
    ·exact .inl h
    ·exact .inr (.inr (by rw[h,kI]; simp))
   have cN:xa (λk=>k = .var i) w G w G':=by
    refine⟨?_,λ_ _ h=>h⟩
    intro b k hb gp
    refine⟨hb,rfl,?_⟩
    rintro o (h|h)
    ·exact h
    ·subst h; rw[kI] at hb; simp at hb; exact absurd hb.symm gp
   have tE:=hf.owlt _ _ kI
   have db:FI N w G' { st with vars:=st.vars.set i .dead } a vs (vS vs ops):=by
    refine⟨by simp[hf.len],?_,λj' t' u' h1 h2=>(hf.loc j' t' u' h1 h2).keep cJ cN (by simp) (by simp),hf.tv,hf.tl,hf.defers,hf.gen,hf.owlt,?_,hf.heap.keep cJ cN (by rintro k hk rfl; simp[Key.isH] at hk),hf.hdom⟩
    ·intro i' t' u' h1 h2
     simp only[aI] at h2
     split at h2
     ·split at h2
      ·simp at h2; subst h2; trivial
      ·simp at h2
     ·rename_i hi
      exact(hf.var i' t' u' h1 h2).keep cJ cN (by simp; omega) (by simp)
    ·rintro b o (h|h)
     ·exact hf.fixlt _ _ h
     ·omega
   have cM:(execOp a.eval o).run P w = .ok (.value (.slice (some ⟨b0,0,none⟩) n n)) w:=by
    have hz:(if n=0 then(⟨b0,0,none⟩:Addr) else(⟨b0,0,none⟩:Addr).add (0*1))=⟨b0,0,none⟩:=by simp[zk]
    simp[execOp,cL,hv,Instr.sliceAt,run_underlying hu,Instr.sureAddr,Instr.sliceBounds,yY hn,hz]
   unfold Oper.wp
   rw[cM]
   refine hk _ _ G' (db.put nm (yI ho) ⟨?_,.inl rfl⟩) cJ (yJ _ _ _)
   have fP:∀x∈cs,x.cells=[x]:=by
    intro x hx
    have:=hR.2.1 x hx
    cases x<;>first|rfl|simp[PV.flat] at this
   rw[← cK]
   refine Hb (size:=1) (news:=cv.toList) ⟨?_,?_,?_,?_⟩ (ao _) ?_
   ·simpa using hl
   ·intro e he; rw[fP e he]; rfl
   ·intro e he y hy; rw[fP e he] at hy; simp at hy; subst hy; exact hR.2.1 _ he
   ·intro k e he m c y eB hy
    rw[fP e (av he)] at hy
    have hm:m=0:=by
     cases m with
     | zero=>rfl
     | succ m=>simp at hy
    subst hm
    simp at hy; subst hy
    exact(hR.2.2 k c _ (by simpa using eB) he).ext cJ
   ·intro k v dJ
    exact⟨by rw[aR]; exact hcell k v dJ,.inr rfl⟩
  ·simp at hs
 ·simp at hs
end
section
variable {E:Env} {N:Nm} {w:World} {G:GS} {st:St} {a:Act} {vs:List Tmp} {ops:List Oper} {P:Program}
variable {o:Oper} {j:Nat} {next:Act→World→Prop} {Q:Exit→Act→World→Prop} {u:PV} {st1:St}
def GS.more (G:GS) (b n:Nat):GS:={ G with ow:=λx=>if x=b then some (.hobj n) else G.ow x,heap:=λm=>if m=n then some b else G.heap m }
theorem DX (nm:Names vs (vS vs ops)) (ho:ops[j]? = some o) (hf:FI N w G st a vs (vS vs ops)) {ob:PObj} {mob:Obj} {v:Value} {u:PV}
  (cM:(execOp a.eval o).run P w = .ok (.value v) (w.alloc mob)) (hv:∀G',G'=G.more w.heap.size st.heap.length→SR N (w.alloc mob) G' (xJ (wv vs o.dst) j) v u)
  (hR:∀G',G'=G.more w.heap.size st.heap.length→Ext w G (w.alloc mob) G'→ObjR N (w.alloc mob) G' st.heap.length w.heap.size ob)
  (hk:wn N w G a { st with heap:=st.heap++[ob] } u vs ops j o next):o.wp P a w next Q:=by
 unfold Oper.wp
 rw[cM]
 let G':GS:=G.more w.heap.size st.heap.length
 have cJ:Ext w G (w.alloc mob) G':=by
  refine⟨rfl,rfl,rfl,by simp,λb hb _=>yr hb,λb o h=>⟨h,CE (hf.fixlt _ _ h)⟩,λ_ _ h => .inl h,?_,?_,.same λk hk=>yr hk,rfl⟩
  ·intro b hb
   by_cases cO:b<w.heap.size
   ·refine .inr ?_
    simp only[G',GS.more] at hb
    rw[ae (by omega)] at hb
    exact hb
   ·exact .inl (by omega)
  ·intro n b h
   have:=hf.hdom _ _ h
   simp only[G',GS.more]
   rw[ae (by omega)]; exact h
 have cN:xa (λ_=>False) w G (w.alloc mob) G':=by
  refine⟨?_,λ_ _ h=>h⟩
  intro b k hb _
  have cO:=hf.owlt _ _ hb
  refine⟨?_,yr cO,λ_ h=>h⟩
  simp only[G',GS.more]
  rw[ae (by omega)]; exact hb
 have db:FI N (w.alloc mob) G' { st with heap:=st.heap++[ob] } a vs (vS vs ops):=by
  refine⟨hf.len,λi t u h1 h2=>(hf.var i t u h1 h2).keep cJ cN (λh=>h) (λ_ _ _ h=>h),λj t u h1 h2=>(hf.loc j t u h1 h2).keep cJ cN (λh=>h) (λ_ _ _ h=>h),hf.tv,hf.tl,hf.defers,hf.gen,?_,?_,?_,?_⟩
  ·intro b k hb
   simp only[G',GS.more] at hb
   split at hb
   ·simp; omega
   ·have:=hf.owlt _ _ hb; simp; omega
  ·intro b o h; have:=hf.fixlt _ _ h; simp; omega
  ·exact hf.heap.push cJ cN (λ_ _ _=>⟨λh=>h,λh=>h⟩) (.inr ⟨w.heap.size,by simp[G',GS.more],by simp[G',GS.more],hR G' rfl cJ⟩)
  ·intro n b h
   simp only[G',GS.more] at h
   simp only[ax,List.length_singleton]
   split at h
   ·omega
   ·have:=hf.hdom _ _ h; omega
 exact hk _ _ G' (db.put nm (yI ho) (hv _ rfl)) cJ (yJ _ _ _)
theorem Kl (hf:FI N w G st a vs (vS vs ops)) {cs:Array Value} {ps:List PV} {T:TypeId}
  (hR:∀(k:Nat) (c:Value) (x:PV),cs[k]? = some c→ps[k]? = some x→VR N w G.fix G.heap c x∧x.flat=true∧(∀es,x = .list true es→c = .slice none 0 0)) (hl:cs.size=ps.length)
  {G':GS} (hG:G'=G.more w.heap.size st.heap.length) (cJ:Ext w G (w.alloc (.cells cs T)) G'):ObjR N (w.alloc (.cells cs T)) G' st.heap.length w.heap.size (.cells ps):=by
 subst hG
 have fq:∀o,¬G.fix w.heap.size o:=λo h=>by have:=hf.fixlt _ _ h; omega
 refine⟨fq,cs,T,AE,Nat.le_of_eq hl.symm,?_⟩
 intro k c x hc hx
 obtain⟨h1,h2,h3⟩:=hR k c x hc hx
 refine⟨h1.ext cJ,h2,?_⟩
 split
 ·rename_i es
  have:=h3 es rfl
  subst this
  trivial
 ·trivial
theorem b6e (nm:Names vs (vS vs ops)) (ho:ops[j]? = some o) (hf:FI N w G st a vs (vS vs ops)) {t:TypeId} {z:List PV} (cL:o.op = .alloc t) (hz:xN P t=some z) {cf:vZ}
  (hs:vW cf (.newobj z) st=some (u,st1)) (hk:wn N w G a st1 u vs ops j o next):o.wp P a w next Q:=by
 simp only[vW,aa,ac] at hs
 obtain⟨rfl,rfl⟩:=hs
 obtain⟨ti,zv,h1,h2,h3,h4,h5,_⟩:=BG (N:=N) (w:=w) (fix:=G.fix) (hp:=G.heap) hz
 refine DX (mob := .cells zv.cells t) (v := .pointer (some ⟨w.heap.size,0,none⟩)) nm ho hf ?_ ?_ (λG' hG cJ=>Kl hf ?_ ?_ hG cJ) hk
 ·simp[execOp,cL,Instr.alloc,zeroValue,typeInfo,h1,h2,newVar,newRow]
 ·rintro G' rfl
  exact .ptr _ _ w.heap.size (by simp[GS.more])
 ·intro k c x hc hx
  refine⟨h5.2.2 k c x (by simpa using hc) hx,h5.2.1 x (av hx),?_⟩
  rintro es rfl
  unfold xN at hz
  simp only[h1,h2,af] at hz
  obtain⟨cs',dY,hz⟩:=hz
  split at hz
  ·simp at hz; subst hz
   exact DT dY k c es (by simpa using hc) hx
  ·simp at hz
 ·have:=h5.1; simpa using this
theorem b6f (hE:EnvOk E N) (nm:Names vs (vS vs ops)) (ho:ops[j]? = some o) (hf:FI N w G st a vs (vS vs ops)) {t:TypeId} {n:Nat} {x:Operand} {px:PX} (cL:o.op = .box t x) (hn:wx P t=some n) (hx:cx E vs ops x=some px)
  {cf:vZ} (hs:vW cf (.boxobj n px) st=some (u,st1)) (hk:wn N w G a st1 u vs ops j o next):o.wp P a w next Q:=by
 simp only[vW] at hs
 split at hs
 ·rename_i p hp
  split at hs
  ·rename_i hl
   simp only[aa,ac] at hs
   obtain⟨rfl,rfl⟩:=hs
   obtain⟨_,_,_,_,eF,_⟩:=yt hn
   have hv:=(wB hE hx hf hp).1
   have dh:=(CellsR.of_cells hv (by intro e; rw[e] at hl; simp at hl; omega))
   refine DX (mob := .cells (a.eval x).cells t) (v := .pointer (some ⟨w.heap.size,0,none⟩)) nm ho hf ?_ ?_ (λG' hG cJ=>Kl hf ?_ ?_ hG cJ) hk
   ·simp[execOp,cL,Instr.box,newVar,newRow]
   ·rintro G' rfl
    exact .ptr _ _ w.heap.size (by simp[GS.more])
   ·intro k c y hc hy
    refine⟨dh.2.2 k c y (by simpa using hc) hy,dh.2.1 y (av hy),?_⟩
    rintro es rfl
    have fy:∀es,p≠.list true es:=by
     rintro es rfl
     unfold rd at hp
     cases h1:raw st px with
     | none=>rw[h1] at hp; simp at hp
     | some q=>rw[h1] at hp; cases q<;>simp[cp] at hp
    generalize a.eval x=v at hv hc
    cases hv with
    | agg cs ps cK cS eK hcell=>exact eK k c es hc hy
    | _ =>
      exfalso
      cases k with
      | succ k=>simp[PV.cells] at hy
      | zero =>
        simp[PV.cells] at hy
        try (obtain⟨rfl,rfl⟩:=hy; exact fy _ rfl)
        try (subst hy; exact fy _ rfl)
   ·have:=dh.1; simpa using this
  ·simp at hs
 ·simp at hs
theorem b7n (nm:Names vs (vS vs ops)) (ho:ops[j]? = some o) (hf:FI N w G st a vs (vS vs ops)) {t:TypeId} (cL:o.op = .makeMap t none) {cf:vZ}
  (hs:vW cf .mkmap st=some (u,st1)) (hk:wn N w G a st1 u vs ops j o next):o.wp P a w next Q:=by
 simp only[vW,aa,ac] at hs
 obtain⟨rfl,rfl⟩:=hs
 refine DX (mob := .map #[] 0) (v := .map (some w.heap.size)) nm ho hf ?_ ?_ ?_ hk
 ·simp[execOp,cL,Instr.makeMap]
 ·rintro G' rfl
  exact .map _ w.heap.size (by simp[GS.more])
 ·rintro G' rfl cJ
  exact⟨#[],0,AE,rfl,by simp,by simp,by simp⟩
theorem Fj (hf:FI N w G st a vs (vS vs ops)) {n b:Nat} {cs:List PV} (hg:wU st n=some cs) (hb:G.heap n=some b):
  G.ow b=some (.hobj n)∧(∀o,¬G.fix b o)∧∃cv T,w.heap[b]? = some (.cells cv T (0,0))∧cs.length≤cv.size∧∀(k:Nat) (c:Value) (x:PV),cv[k]? = some c→cs[k]? = some x→CR N w G (.hcell n k) c x:=by
 unfold wU at hg
 split at hg
 ·rename_i cs' hn
  simp at hg; subst hg
  rcases hf.heap.1 n _ hn with e|⟨b',h1,h2,h3,h4⟩
  ·simp at e
  have:b'=b:=by rw[hb] at h1; simpa using h1.symm
  subst this
  exact⟨h2,h3,h4⟩
 ·simp at hg
theorem KV {b n:Nat} {cv:Array Value} {T:TypeId} {cs:List PV} (hh:w.heap[b]? = some (.cells cv T (0,0))) (hl:cs.length≤cv.size)
  (hc:∀(k:Nat) (c:Value) (x:PV),cv[k]? = some c→cs[k]? = some x→CR N w G (.hcell n k) c x):
  CellsR N w G.fix G.heap (cv.toList.take cs.length) cs∧∀(k:Nat) (v:Value),(cv.toList.take cs.length)[k]? = some v→w.cell? ⟨b,k,none⟩=some v:=by
 have get:∀(k:Nat) (v:Value),(cv.toList.take cs.length)[k]? = some v→cv[k]? = some v:=by
  intro k v hv
  rw[aP] at hv
  split at hv
  ·simpa using hv
  ·simp at hv
 refine⟨⟨by simp; omega,?_,λi c x h1 h2=>(hc i c x (get i c h1) h2).1⟩,?_⟩
 ·intro x hx
  obtain⟨i,hi⟩:=bb.1 hx
  have cO:i<cv.size:=by have:=(aj.1 hi).1; omega
  exact(hc i cv[i] x (by simp[cO]) hi).2.1
 ·intro k v hv
  simp[World.cell?,hh,get k v hv]
theorem He (hE:EnvOk E N) {x:Operand} {px:PX} {n off:Nat} (hc:cx E vs ops x=some px) (hf:FI N w G st a vs (vS vs ops)) (hr:addr st px=some (.ptr n off)):
  ∃b,a.eval x = .pointer (some ⟨b,off,none⟩)∧G.heap n=some b:=by
 rcases AQ hE hc hf hr with⟨_,_,_,_,h,_⟩|⟨h,_⟩
 ·simp at h
 ·generalize a.eval x=v at h
  cases h with
  | ptr _ _ b hb=>exact⟨b,rfl,hb⟩
theorem b7o (hE:EnvOk E N) (nm:Names vs (vS vs ops)) (ho:ops[j]? = some o) (hf:FI N w G st a vs (vS vs ops)) {t:TypeId} {n:Nat} {x:Operand} {px:PX} {tk:Bool} (cL:o.op = .load t x) (hn:wx P t=some n)
  (hx:cx E vs ops x=some px) {cf:vZ} (hs:vW cf (.load n (wQ P t) px tk) st=some (u,st1)) (hk:wn N w G a st1 u vs ops j o next):o.wp P a w next Q:=by
 have plain:∀r,(Instr.loadAt t (a.eval x)).run P w = .ok r w→(execOp a.eval o).run P w = .ok (.value r) w:=by
  intro r hr
  simp[execOp,cL,hr]
 have eF:n≠0:=by obtain⟨_,_,_,_,h,_⟩:=yt hn; exact h
 simp only[vW] at hs
 split at hs
 ·rename_i cs ha
  simp only[ab,ac] at hs
  obtain⟨r,hr,rfl,rfl⟩:=hs
  rcases AQ hE hx hf ha with⟨_,_,_,_,h,_⟩|⟨h,_⟩
  ·simp at h
  ·obtain⟨r',h1,h2,h3⟩:=Kd (P:=P) hn h hr
   exact wD nm ho hf (plain _ h1) (SR.of_pure h2 h3) hk
 ·rename_i m off ha
  obtain⟨b,hv,hb⟩:=He hE hx hf ha
  simp only[af] at hs
  obtain⟨cs,hg,hs⟩:=hs
  obtain⟨eo,gq,cv,T,hh,hl,hc⟩:=Fj hf hg hb
  split at hs
  ·rename_i es ec hcell
   simp only[aa,ac] at hs
   obtain⟨rfl,rfl⟩:=hs
   simp only[am,bF] at ec
   have cO:off<cv.size:=by have:=(aj.1 hcell).1; omega
   obtain⟨cR,_,dm⟩:=hc off cv[off] _ (by simp[cO]) hcell
   obtain⟨G',hG,fe⟩:=Room.give (key':=xJ (wv vs o.dst) j) dm
   have gM:G'.box=G.box∧G'.fix=G.fix∧G'.heap=G.heap:=by
    rcases hG with rfl|⟨b,_,rfl⟩<;>exact⟨rfl,rfl,rfl⟩
   have cJ:Ext w G w G':=by
    rcases hG with rfl|⟨b,hb,rfl⟩
    ·exact Ext.refl _ _
    ·exact G6 b _ (λ_=>by simp[hb])
   have cN:xa (λk=>k = .hcell m off) w G w G':=by
    rcases hG with rfl|⟨b,hb,rfl⟩
    ·exact⟨λb k h _=>⟨h,rfl,λ_ h=>h⟩,λ_ _ h=>h⟩
    ·exact G7 b _ (λk' dg=>by rw[hb] at dg; simpa using dg.symm)
   have db:FI N w G' (wA st m (.cells (cs.set off (.list false es)))) a vs (vS vs ops):=by
    refine⟨hf.len,λi t' u' h1 h2=>(hf.var i t' u' h1 h2).keep cJ cN (by simp) (by simp),λi t' u' h1 h2=>(hf.loc i t' u' h1 h2).keep cJ cN (by simp) (by simp),hf.tv,hf.tl,(hf.defers.trans cJ.df.symm),by rw[gM.1]; exact hf.gen,?_,by rw[gM.2.1]; exact hf.fixlt,?_,?_⟩
    ·intro b' k cX
     rcases hG with rfl|⟨b2,dB,rfl⟩
     ·exact hf.owlt _ _ cX
     ·simp only[GS.give] at cX
      split at cX
      ·subst_vars; exact hf.owlt _ _ dB
      ·exact hf.owlt _ _ cX
    ·refine hf.heap.keepBut cJ cN (λn k c9=>⟨by simp,by simp; omega⟩) (λ_ =>?_)
     refine .inr ⟨b,cJ.heap _ _ hb,(cN.1 _ _ eo (by simp)).1,by rw[gM.2.1]; exact gq,cv,T,hh,by simp[hl],?_⟩
     intro k c y dD hy
     rw[aI] at hy
     split at hy
     ·rename_i ez
      subst ez
      split at hy
      ·simp at hy; subst hy
       have:c=cv[off]:=by simp[cO] at dD; exact dD.symm
       subst this
       exact⟨(cR.dem).ext cJ,rfl,trivial⟩
      ·simp at hy
     ·rename_i ez
      exact(hc k c y dD hy).keep cJ cN (by simp; omega)
    ·rw[gM.2.2]; simp only[wA,bJ]; exact hf.hdom
   unfold Oper.wp
   have cM:(Instr.loadAt t (a.eval x)).run P w = .ok cv[off] w:=by
    have dS:w.cell? ⟨b,off,none⟩=some cv[off]:=by simp[World.cell?,hh,cO]
    rw[hv]
    simp[Instr.loadAt,Instr.sureAddr,loadVar,C7 hn,ec.2,dS]
   rw[plain _ cM]
   exact hk _ _ G' (db.put nm (yI ho) ⟨cR.ext cJ,fe⟩) cJ (yJ _ _ _)
  ·simp only[ab,ac] at hs
   obtain⟨r,hr,rfl,rfl⟩:=hs
   obtain⟨hR,hcell⟩:=KV hh hl hc
   obtain⟨k1,k2,k3⟩:=CC hR hr eF (Bj hn)
   have:=Ef (w:=w) hn b off ((cv.toList.take cs.length).drop off) (by simp at k1 ⊢; omega) (λj v hv=>by
    rw[aT] at hv
    exact hcell _ _ hv)
   refine wD nm ho hf (plain _ ?_) (SR.of_pure k2 k3) hk
   rw[hv]
   simpa[Instr.loadAt,Instr.sureAddr] using this
 ·simp at hs
theorem b2Q {n off:Nat} {t:TypeId} {cv:Array Value} {cs cs':List PV} {v:PV} {val:Value} (hl:cs.length≤cv.size) (hn:wx P t=some n) (dx:wz n (wQ P t) cs off v=some cs') (cR:VR N w G.fix G.heap val v):
  ∃ nc : List Value, val.cells.toList = nc ∧ nc.length = n ∧ off + n ≤ cv.size ∧ (∀ c ∈ nc, c.oneCell' = true) ∧ cs'.length = cs.length ∧
    ∀ (k : Nat) (c : Value) (z : PV), (cv.toList.take off ++ nc ++ cv.toList.drop (off + n))[k]? = some c → cs'[k]? = some z →
      (cv[k]? = some c∧cs[k]? = some z)∨(VR N w G.fix G.heap c z∧z.flat=true∧∀es,z = .list true es→(k=off∧c=val∧v = .list true es)∨c = .slice none 0 0):=by
 unfold wz at dx
 split at dx
 ·rename_i gk
  split at dx
  ·rename_i ws
   split at dx
   ·rename_i cP
    simp only[aa] at dx; subst dx
    obtain⟨ca,kN,hR⟩:=CellsR.of_agg cR
    have hO:OwnNil ca.toList ws:=OwnNil.of_agg (kN▸cR)
    have dS:val.cells.toList=ca.toList:=by rw[kN]; rfl
    have cK:ca.toList.length=n:=by have:=hR.1; omega
    refine⟨ca.toList,dS,cK,by omega,?_,by simp; omega,?_⟩
    ·intro c gm
     obtain⟨i,hi⟩:=bb.1 gm
     have cO:i<ws.length:=by have:=(aj.1 hi).1; have:=hR.1; omega
     have h1:=hR.2.2 i c ws[i] hi (aq cO)
     have h2:=h1.oneCell (hR.2.1 _ (ai cO))
     cases c<;>first|rfl|simp[oneCell] at h2
    ·intro k c z dD hz
     rw[aJ] at dD
     have fA:(cv.toList.take off).length=off:=by simp; omega
     have kj:(cs.take off).length=off:=by simp; omega
     by_cases h1:k<off
     ·rw[al (by omega),aP,ah h1] at dD
      rw[al (by omega),aP,ah h1] at hz
      exact .inl ⟨by simpa using dD,hz⟩
     ·rw[ap (by omega),fA] at dD
      rw[ap (by omega),kj] at hz
      by_cases h2:k<off+n
      ·rw[al (by omega)] at dD
       rw[al (by omega)] at hz
       refine .inr ⟨hR.2.2 _ c z dD hz,hR.2.1 z (av hz),?_⟩
       rintro es rfl
       exact .inr (hO _ c es dD hz)
      ·rw[ap (by omega),aT,cK] at dD
       rw[ap (by omega),aT,cP.1] at hz
       rw[show off+n+(k - off - n)=k by omega] at dD hz
       exact .inl ⟨by simpa using dD,hz⟩
   ·simp at dx
  ·simp at dx
 ·rename_i gk
  have nh:=Bj hn (by simpa using gk)
  subst nh
  split at dx
  ·rename_i cP
   simp only[aa] at dx; subst dx
   have h1:=cR.oneCell cP.2
   have dS:val.cells.toList=[val]:=by
    cases val<;>first|rfl|simp[oneCell] at h1
   refine⟨[val],dS,rfl,by omega,?_,by simp,?_⟩
   ·intro c gm
    simp at gm; subst gm
    cases c<;>first|rfl|simp[oneCell] at h1
   ·intro k c z dD hz
    rw[aJ] at dD
    have fA:(cv.toList.take off).length=off:=by simp; omega
    rw[aI] at hz
    split at hz
    ·rename_i o5
     subst o5
     split at hz
     ·simp at hz; subst hz
      rw[ap (by omega),fA] at dD
      simp at dD; subst dD
      exact .inr ⟨cR,cP.2,λes e => .inl ⟨rfl,rfl,e⟩⟩
     ·simp at hz
    ·rename_i o5
     refine .inl ⟨?_,hz⟩
     by_cases h1:k<off
     ·rw[al (by omega),aP,ah h1] at dD
      simpa using dD
     ·rw[ap (by omega),fA,ap (by simp; omega),aT] at dD
      simp only[List.length_singleton] at dD
      rw[show off+1+(k - off - 1)=k by omega] at dD
      simpa using dD
  ·simp at dx
theorem O9 (hE:EnvOk E N) (nm:Names vs (vS vs ops)) (ho:ops[j]? = some o) (hf:FI N w G st a vs (vS vs ops)) {t:TypeId} {n:Nat} {x y:Operand} {px py:PX} (cL:o.op = .store t x y) (dU:o.dst=none) (hn:wx P t=some n)
  (hx:cx E vs ops x=some px) (hy:cx E vs ops y=some py) {cf:vZ} (hs:vW cf (.store n (wQ P t) px py) st=some (u,st1)) (hk:wn N w G a st1 u vs ops j o next):o.wp P a w next Q:=by
 simp only[vW] at hs
 split at hs
 ·rename_i m off v st' ha ec
  obtain⟨b,hv,hb⟩:=He hE hx hf ha
  obtain⟨G1,db,dP,ii,eD,dC,cR,ff,_,_,_⟩:=DV hE hy hf ec (.hcell m off)
  simp only[af,ab,ac] at hs
  obtain⟨cs,hg,cs',dx,rfl,rfl⟩:=hs
  have eH:G1.heap m=some b:=by rw[dC]; exact hb
  obtain⟨eo,gq,cv,T,hh,hl,hc⟩:=Fj db hg eH
  obtain⟨nc,fJ,cK,gy,mJ,sa,dh⟩:=b2Q hl hn dx cR
  have cM:(execOp a.eval o).run P w = .ok .skip (w.setRow b (cv.toList.take off++nc++cv.toList.drop (off+n)).toArray):=by
   have dx:=run_storeCells_at P b off T nc 0 cv w hh (by simp; omega) mJ
   simp only[bo,cK] at dx
   have cQ:(a.eval y).cells.size=n:=by rw[← cK,← fJ]; simp
   simp[execOp,cL,Instr.storeAt,hv,Instr.sureAddr,storeVar,yY hn,cQ,fJ,dx]
  unfold Oper.wp
  rw[cM]
  have eX:b<w.heap.size:=db.owlt _ _ eo
  have cU:∀x,x≠b→(w.setRow b (cv.toList.take off++nc++cv.toList.drop (off+n)).toArray).heap[x]? = w.heap[x]? := λx hx=>setRow_other w b x _ hx
  have dF:Ext w G1 (w.setRow b (cv.toList.take off++nc++cv.toList.drop (off+n)).toArray) G1:=by
   refine⟨rfl,rfl,rfl,by simp[World.setRow],?_,?_,λ_ _ h => .inl h,λ_ h => .inr h,λ_ _ h=>h,Fh hh _ (by simp; omega),rfl⟩
   ·intro x _ iV
    exact cU x (by rintro rfl; rw[eo] at iV; simp at iV)
   ·intro x o' fl
    refine⟨fl,?_⟩
    have gc:x≠b:=by rintro rfl; exact gq _ fl
    simp only[World.cell?,cU x gc]
  have du:xa (λk=>k = .hobj m) w G1 (w.setRow b (cv.toList.take off++nc++cv.toList.drop (off+n)).toArray) G1:=by
   refine⟨?_,λ_ _ h=>h⟩
   intro x k gz gp
   refine⟨gz,cU x ?_,λ_ h=>h⟩
   rintro rfl
   rw[eo] at gz
   simp at gz
   exact gp gz.symm
  have jw:FI N (w.setRow b (cv.toList.take off++nc++cv.toList.drop (off+n)).toArray) G1 (wA st' m (.cells cs')) a vs (vS vs ops):=by
   refine⟨db.len,λi t' u' h1 h2=>(db.var i t' u' h1 h2).keep dF du (by simp) (by simp),λi t' u' h1 h2=>(db.loc i t' u' h1 h2).keep dF du (by simp) (by simp),db.tv,db.tl,db.defers,db.gen,?_,?_,?_,?_⟩
   ·intro x k hx; simpa[World.setRow] using db.owlt x k hx
   ·intro x o' hx; simpa[World.setRow] using db.fixlt x o' hx
   ·refine db.heap.keepBut dF du (λn k c9=>⟨by simp; omega,by simp⟩) (λ_ =>?_)
    refine .inr ⟨b,eH,eo,gq,_,T,setRow_heap w b cv _ T (0,0) hh,?_,?_⟩
    ·simp; omega
    ·intro k c z dD hz
     rcases dh k c z (by simpa using dD) hz with⟨k1,k2⟩|⟨k1,k2,k3⟩
     ·exact(hc k c z k1 k2).keep dF du (by simp)
     ·refine⟨(eD▸dC▸k1:VR N w G1.fix G1.heap c z).ext dF,k2,?_⟩
      split
      ·rename_i es
       rcases k3 es rfl with⟨e1,e2,e3⟩|e
       ·subst e1 e2 e3
        have hr:Room w G1 (.hcell m k) (a.eval y) es:=ff
        exact hr.keep du (by simp)
       ·subst e; trivial
      ·trivial
   ·simp only[wA,bJ]; exact db.hdom
  have fL:a.put o.dst undef=a:=by simp[dU,Act.put]
  have hd:wv vs o.dst = .n:=by simp[dU,wv]
  show next (a.put o.dst undef) _
  rw[fL]
  refine hk _ _ G1 ?_ (dP.trans dF) rfl
  rw[hd]
  exact jw
 ·simp at hs
theorem b4x (hE:EnvOk E N) (nm:Names vs (vS vs ops)) (ho:ops[j]? = some o) (hf:FI N w G st a vs (vS vs ops)) {t:TypeId} {n:Nat} {x y:Operand} {px py:PX} (cL:o.op = .store t x y) (dU:o.dst=none) (hn:wx P t=some n)
  (hx:cx E vs ops x=some px) (hy:cx E vs ops y=some py) {cf:vZ} (hs:vW cf (.storer n (wQ P t) px py) st=some (u,st1)) (hk:wn N w G a st1 u vs ops j o next):o.wp P a w next Q:=by
 refine O9 hE nm ho hf cL dU hn hx hy (cf:=cf) ?_ hk
 simp only[vW] at hs ⊢
 split at hs
 ·rename_i m off v ha hr
  split at hs
  ·simp at hs
  ·rename_i hl
   have ec:tk st py=some (v,st):=by
    unfold tk
    simp only[rd,af] at hr
    obtain⟨r,h1,h2⟩:=hr
    rw[h1]
    cases r<;>simp[cp] at h2<;>subst h2<;>first|rfl|simp[Fo] at hl
   simp only[ha,ec]
   exact hs
 ·simp at hs
theorem b6g (hE:EnvOk E N) (nm:Names vs (vS vs ops)) (ho:ops[j]? = some o) (hf:FI N w G st a vs (vS vs ops)) {t e:TypeId} {x i:Operand} {px pi:PX} {n len:Nat} (cL:o.op = .indexAddr t x i)
  (hu:P.underlying t=some (.array len e)) (hn:wx P e=some n) (hx:cx E vs ops x=some px) (hi:cx E vs ops i=some pi) {cf:vZ} (hs:vW cf (.iaddr len n px pi) st=some (u,st1)) (hk:wn N w G a st1 u vs ops j o next):o.wp P a w next Q:=by
 simp only[vW] at hs
 split at hs
 ·rename_i m off k ha gY
  split at hs
  ·rename_i hb
   simp only[aa,ac] at hs
   obtain⟨rfl,rfl⟩:=hs
   obtain⟨b,hv,vJ⟩:=He hE hx hf ha
   obtain⟨kk,fQ⟩:=Bg hE hi hf gY
   refine wD nm ho hf (v := .pointer (some ⟨b,off+k.toNat*n,none⟩)) ?_ (SR.of_pure (.ptr _ _ b vJ) rfl) hk
   simp[execOp,cL,Instr.indexAt,fQ,hv,asIntOf,run_underlying hu,Instr.sureAddr,hb,yY hn,zk]
  ·simp at hs
 ·simp at hs
end
end PI
set_option linter.unusedSimpArgs false
set_option linter.unusedVariables false
namespace PI
open Go Go.MapKept
section
variable {E:Env} {N:Nm} {w:World} {G:GS} {st:St} {a:Act} {vs:List Tmp} {ops:List Oper} {P:Program}
variable {o:Oper} {j:Nat} {next:Act→World→Prop} {Q:Exit→Act→World→Prop} {u:PV} {st1:St}
theorem Pe (s t:ByteArray):(s==t)=(s.data.toList==t.data.toList):=by
 rw[aC,MapKept.bytes_beq,bm]
 constructor
 ·rintro rfl; rfl
 ·intro h
  obtain⟨⟨s⟩⟩:=s
  obtain⟨⟨t⟩⟩:=t
  simpa using h
theorem b9d {kt:TypeId} {d:TypeDesc} {kk:EK} {fix:Nat→Nat→Prop} {hp:Nat→Option Nat} {vx vy:Value} {x y:PV} {b:Bool} (hd:P.underlying kt=some d) (hk:ekT P kt=some kk) (hx:VR N w fix hp vx x) (hy:VR N w fix hp vy y) (h:zZ kk x y=some b):
  Instr.sameNow d vx vy=some b:=by
 unfold ekT at hk
 rw[hd] at hk
 unfold zZ at h
 split at h
 ·cases hx; cases hy
  simp only[aa] at h; subst h
  split at hk<;>simp at hk
  rename_i gE
  simp at gE; subst gE
  rfl
 ·cases hx; cases hy
  split at h
  ·subst_vars
   simp only[aa] at h; subst h
   split at hk<;>simp at hk
   rename_i gE
   simp at gE; subst gE
   simp[Instr.sameNow]
  ·simp at h
 ·cases hx; cases hy
  simp only[aa] at h; subst h
  split at hk<;>simp at hk
  rename_i gE
  simp at gE; subst gE
  simp only[Instr.sameNow,Pe]
 ·simp at h
theorem Pf {fix:Nat→Nat→Prop} {hp:Nat→Option Nat} {kk:EK} {vx vy:Value} {x y:PV} (hx:VR N w fix hp vx x) (hy:VR N w fix hp vy y) (h:zZ kk x y=some true) (n:Nat):Instr.sameBits n vy vx=true:=by
 unfold zZ at h
 split at h
 ·cases hx; cases hy
  simp at h; subst h; simp[Instr.sameBits]
 ·cases hx; cases hy
  split at h
  ·subst_vars
   simp at h; subst h; simp[Instr.sameBits]
  ·simp at h
 ·cases hx with
  | str s =>
    cases hy with
    | str t =>
      have e:(s==t)=true:=by rw[Pe]; simpa using h
      have e':s=t:=(MapKept.bytes_beq s t).1 e
      subst e'
      simpa[Instr.sameBits] using e
 ·simp at h
theorem Pg {kt:TypeId} {d:TypeDesc} {kk:EK} {fix:Nat→Nat→Prop} {hp:Nat→Option Nat} {kv:Value} {kp:PV} (hd:P.underlying kt=some d) (hk:ekT P kt=some kk) (iM:VR N w fix hp kv kp):
  ∀{mes:List MapEntry} {es:List (PV×PV)} {i:Nat} {r:Option (Nat×PV)},mes.length=es.length→(∀(i:Nat) (e:MapEntry) (p:PV×PV),mes[i]? = some e→es[i]? = some p→VR N w fix hp e.key p.1) →
  xB false [kk] kp es i=some r →
  (r=none∧Instr.findNow d kv mes i=some none)∨(∃n v e p1,r=some (i+n,v)∧Instr.findNow d kv mes i=some (some (i+n,e.val))∧mes[n]? = some e∧es[n]? = some (p1,v)∧zZ kk kp p1=some true)
 | [], [], i, r, _, _, h => by
   simp[xB] at h; subst h
   exact .inl ⟨rfl,rfl⟩
 | e :: mes, p :: es, i, r, hl, hv, h => by
   simp only[xB,peq,aH,if_false,af] at h
   obtain⟨b,hb,h⟩:=h
   have hs:=b9d hd hk iM (hv 0 e p rfl rfl) hb
   cases b with
   | true =>
     simp at h; subst h
     exact .inr ⟨0,p.2,e,p.1,rfl,by simp[Instr.findNow,hs],rfl,rfl,hb⟩
   | false =>
     simp at h
     rcases Pg hd hk iM (mes:=mes) (es:=es) (by simpa using hl) (λi e p h1 h2=>hv (i+1) e p (by simpa using h1) (by simpa using h2)) h with⟨h1,h2⟩ | ⟨n,v,e',p1,h1,h2,h3,h4,h5⟩
     ·exact .inl ⟨h1,by simp[Instr.findNow,hs,h2]⟩
     ·exact .inr ⟨n+1,v,e',p1,by rw[h1]; simp; omega,by simp[Instr.findNow,hs,h2]; omega,by simpa using h3,by simpa using h4,h5⟩
 | [],_::_,_,_,hl,_,_=>by simp at hl
 | _::_,[],_,_,hl,_,_=>by simp at hl
theorem b4y {kt:TypeId} {kk:EK} (hk:ekT P kt=some kk) (b:Bool) (v:Value):(Instr.checkKey b 10000 kt v).run P w = .ok () w:=by
 unfold ekT at hk
 unfold Instr.checkKey
 split at hk
 ·rename_i hu; simp only[Sem.run_bind,run_underlying hu,Result.andThen_ok]; cases v<;>rfl
 ·rename_i hu; simp only[Sem.run_bind,run_underlying hu,Result.andThen_ok]; cases v<;>rfl
 ·rename_i hu; simp only[Sem.run_bind,run_underlying hu,Result.andThen_ok]; cases v<;>rfl
 ·simp at hk
theorem Ph {kt:TypeId} {kk:Bool×List EK} (h:Cc P kt=some kk):(∃k,ekT P kt=some k∧kk=(false,[k])) ∨
  ∃fs,P.underlying kt=some (.struct fs)∧eqFields P fs.toList 0=some kk.2∧kk.1=true∧P.stoodInHeld kt=false:=by
 unfold Cc at h
 split at h
 ·rename_i k hk
  simp only[aa] at h
  exact .inl ⟨k,hk,h.symm⟩
 ·split at h
  ·rename_i ks gL
   simp only[aa] at h
   subst h
   unfold eqT at gL
   split at gL
   ·simp at gL
   ·simp at gL
   ·simp at gL
   ·rename_i fs hu
    split at gL
    ·rename_i ks' sj
     split at gL
     ·rename_i cP
      simp only[aa,ac,true_and] at gL
      subst gL
      simp only[am,bF] at cP
      exact .inr ⟨fs,hu,sj,rfl,cP.1⟩
     ·simp at gL
    ·simp at gL
   ·simp at gL
  ·simp at h
theorem Pj:∀{fs:List Field} {off:Nat} {ks:List EK},eqFields P fs off=some ks→ks.length=fs.length∧∀f∈fs,∃i,off≤i∧i<off+fs.length∧f.offset=i∧f.name ≠ "_" ∧ wx P f.type=some 1∧wQ P f.type=false∧∃k,ekT P f.type=some k
 | [],off,ks,h=>by simp[eqFields] at h; subst h; simp
 | f :: fs, off, ks, h => by
   simp only[eqFields] at h
   split at h
   ·rename_i hc
    simp only[af,ab] at h
    obtain⟨k,hk,ks',gL,rfl⟩:=h
    obtain⟨h1,h2⟩:=Pj gL
    refine⟨by simp[h1],?_⟩
    intro g hg
    rcases az.1 hg with rfl|hg
    ·exact⟨off,ao _,by simp,hc.1,hc.2.1,hc.2.2.1,hc.2.2.2,k,hk⟩
    ·obtain⟨i,a1,a2,a3⟩:=h2 g hg
     exact⟨i,by omega,by simp; omega,a3⟩
   ·simp at h
theorem Hf:∀{ks:List EK} {xs ys:List PV} {b:Bool},zA ks xs ys=some b→xs.length=ks.length∧ys.length=ks.length
 | [],xs,ys,b,h=>by cases xs<;>cases ys<;>simp_all [zA]
 | k :: ks, xs, ys, b, h => by
   cases xs with
   | nil=>simp[zA] at h
   | cons x xs =>
     cases ys with
     | nil=>simp[zA] at h
     | cons y ys =>
       simp only[zA,af,ab] at h
       obtain⟨_,_,_,h2,_⟩:=h
       obtain⟨a1,a2⟩:=Hf h2
       simp[a1,a2]
theorem Km {ks:List EK} {kp:PV} {es:List (PV×PV)} {i:Nat} {r} (h:xB true ks kp es i=some r):∃cs,kp = .agg cs∧cs.length=ks.length:=by
 cases es with
 | nil =>
   rw[xB.eq_def] at h
   cases kp<;>simp only[Option.ite_none_right_eq_some,reduceCtorEq] at h<;>exact⟨_,rfl,h.1⟩
 | cons e es =>
   simp only[xB,af] at h
   obtain⟨b,hb,_⟩:=h
   simp only[peq,if_true] at hb
   split at hb
   ·exact⟨_,rfl,(Hf hb).1⟩
   ·simp at hb
theorem Hg {kt:TypeId} {kk:Bool×List EK} {G:GS} {kv:Value} {kp:PV} (hk:Cc P kt=some kk) (iM:VR N w G.fix G.heap kv kp) {es:List (PV×PV)} {i:Nat} {r} (h:xB kk.1 kk.2 kp es i=some r) (b:Bool):(Instr.checkKey b 10000 kt kv).run P w = .ok () w:=by
 rcases Ph hk with⟨k,dg,rfl⟩|⟨fs,hu,hf,h1,_⟩
 ·exact b4y dg b kv
 ·rw[h1] at h
  obtain⟨cs,rfl,hl⟩:=Km h
  obtain⟨vs,rfl,hc⟩:=CellsR.of_agg iM
  obtain⟨e1,e2⟩:=Pj hf
  have cQ:vs.size=fs.size:=by have:=hc.1; simp at this; simp at e1; omega
  have key:∀(l:List Field),(∀f∈l,f∈fs.toList)→((do for f in l do if f.name ≠ "_" then Instr.checkKey b 9999 f.type (← part f.type vs f.offset)):Sem Unit).run P w = .ok () w:=by
   intro l
   induction l with
   | nil=>intro _; rfl
   | cons f l ih =>
     intro hl
     obtain⟨i,a1,a2,a3,a4,a5,a6,k,a7⟩:=e2 f (hl f (by simp))
     have cO:i<vs.size:=by simp at a2; omega
     have i8:(part f.type vs f.offset).run P w = .ok vs[i] w:=by
      simp[part,C7 a5,a6,a3,cO]
     have mt:(Instr.checkKey b 9999 f.type vs[i]).run P w = .ok () w:=by
      unfold ekT at a7
      unfold Instr.checkKey
      split at a7
      ·rename_i hu; simp only[Sem.run_bind,run_underlying hu,Result.andThen_ok]; cases vs[i]<;>rfl
      ·rename_i hu; simp only[Sem.run_bind,run_underlying hu,Result.andThen_ok]; cases vs[i]<;>rfl
      ·rename_i hu; simp only[Sem.run_bind,run_underlying hu,Result.andThen_ok]; cases vs[i]<;>rfl
      ·simp at a7
     have ih':=ih (λg hg=>hl g (by simp[hg]))
     rw[List.forIn_cons]
     simp only[Sem.run_bind,ne_eq,a4,cm,if_true,i8,Result.andThen_ok,mt,Sem.run_pure] at ih' ⊢
     exact ih'
  unfold Instr.checkKey
  simp only[Sem.run_bind,run_underlying hu,Result.andThen_ok,← Array.forIn_toList]
  have:=key fs.toList (λ_ h=>h)
  rw[Sem.run_bind] at this
  exact this
theorem b9e {ks:List EK}:∀{xs ys:List PV} {cs ds:List Value},zA ks xs ys=some true→cs.length=xs.length→ds.length=ys.length→∀{fix:Nat→Nat→Prop} {hp:Nat→Option Nat},(∀(i:Nat) (v:Value) (p:PV),cs[i]? = some v→xs[i]? = some p→VR N w fix hp v p) →
  (∀(i:Nat) (v:Value) (p:PV),ds[i]? = some v→ys[i]? = some p→VR N w fix hp v p)→∀n,((ds.zip cs).all λ(x,y)=>Instr.sameBits n x y)=true:=by
 induction ks with
 | nil =>
   intro xs ys cs ds h h1 h2 fix hp hx hy n
   obtain⟨a1,a2⟩:=Hf h
   simp at a1 a2
   subst a1 a2
   simp at h1 h2
   subst h1 h2
   rfl
 | cons k ks ih =>
   intro xs ys cs ds h h1 h2 fix hp hx hy n
   cases xs with
   | nil=>simp[zA] at h
   | cons x xs =>
     cases ys with
     | nil=>simp[zA] at h
     | cons y ys =>
       simp only[zA,af,ab] at h
       obtain⟨b1,eH,b2,dB,hb⟩:=h
       simp only[am] at hb
       obtain⟨rfl,rfl⟩:=hb
       cases cs with
       | nil=>simp at h1
       | cons c cs =>
         cases ds with
         | nil=>simp at h2
         | cons d ds =>
           simp only[List.zip_cons_cons,List.all_cons,am]
           exact⟨Pf (hx 0 c x rfl rfl) (hy 0 d y rfl rfl) eH n,ih dB (by simpa using h1) (by simpa using h2) (λi v p a b=>hx (i+1) v p (by simpa using a) (by simpa using b)) (λi v p a b=>hy (i+1) v p (by simpa using a) (by simpa using b)) n⟩
theorem b9f {kk:Bool×List EK} {G:GS} {vx vy:Value} {x y:PV} (hx:VR N w G.fix G.heap vx x) (hy:VR N w G.fix G.heap vy y) (h:peq kk.1 kk.2 x y=some true) (n:Nat):Instr.sameBits (n+1) vy vx=true:=by
 unfold peq at h
 split at h
 ·split at h
  ·rename_i xs ys
   obtain⟨cs,rfl,hc⟩:=CellsR.of_agg hx
   obtain⟨ds,rfl,hd⟩:=CellsR.of_agg hy
   obtain⟨a1,a2⟩:=Hf h
   have h1:=hc.1
   have h2:=hd.1
   simp only[Instr.sameBits,am,bm]
   refine⟨by simp at h1 h2; omega,b9e h (by simpa using h1) (by simpa using h2) (λi v p a b=>hc.2.2 i v p (by simpa using a) b) (λi v p a b=>hd.2.2 i v p (by simpa using a) b) n⟩
  ·simp at h
 ·split at h
  ·exact Pf hx hy h (n+1)
  ·simp at h
theorem Kn {kt:TypeId} {kk:Bool×List EK} {G:GS} {kv:Value} {kp:PV} (hk:Cc P kt=some kk) (iM:VR N w G.fix G.heap kv kp) {mes:List MapEntry} {es:List (PV×PV)} {r:Option (Nat×PV)} (hl:mes.length=es.length)
  (hv:∀(i:Nat) (e:MapEntry) (p:PV×PV),mes[i]? = some e→es[i]? = some p→VR N w G.fix G.heap e.key p.1) (h:xB kk.1 kk.2 kp es 0=some r):
  (r=none∧(Instr.findKey kt kv mes).run P w = .ok none w)∨(∃n v e p1,r=some (n,v)∧(Instr.findKey kt kv mes).run P w = .ok (some (n,e.val)) w∧mes[n]? = some e∧es[n]? = some (p1,v)∧peq kk.1 kk.2 kp p1=some true):=by
 rcases Ph hk with⟨k,dg,rfl⟩|⟨fs,hu,hf,h1,dx⟩
 ·obtain⟨d,hd⟩:∃d,P.underlying kt=some d:=by
   unfold ekT at dg
   split at dg<;>first|exact⟨_,by assumption⟩|simp at dg
  rcases Pg hd dg iM hl hv h with⟨a1,a2⟩|⟨n,v,e,p1,a1,a2,a3,a4,a5⟩
  ·exact .inl ⟨a1,run_findKey hd a2⟩
  ·simp only[aR] at a1 a2
   exact .inr ⟨n,v,e,p1,a1,run_findKey hd a2,a3,a4,by simpa[peq] using a5⟩
 ·simp only[h1] at h ⊢
  have ask:∀(mes:List MapEntry) (es:List (PV×PV)) (i:Nat) (r:Option (Nat×PV)),mes.length=es.length→(∀(i:Nat) (e:MapEntry) (p:PV×PV),mes[i]? = some e→es[i]? = some p→VR N w G.fix G.heap e.key p.1)→xB true kk.2 kp es i=some r →
    (r=none∧(Instr.findAsking kt kv mes i).run P w = .ok none w)∨(∃n v e p1,r=some (i+n,v)∧(Instr.findAsking kt kv mes i).run P w = .ok (some (i+n,e.val)) w∧mes[n]? = some e∧es[n]? = some (p1,v)∧peq true kk.2 kp p1=some true):=by
   intro mes
   induction mes with
   | nil =>
     intro es i r hl hv h
     cases es with
     | cons _ _=>simp at hl
     | nil =>
       obtain⟨cs,rfl,cK⟩:=Km h
       rw[xB.eq_def] at h
       simp only[cK,if_true,aa] at h
       subst h
       exact .inl ⟨rfl,by simp[Instr.findAsking]⟩
   | cons e mes ih =>
     intro es i r hl hv h
     cases es with
     | nil=>simp at hl
     | cons p es =>
       simp only[xB,af] at h
       obtain⟨b,hb,h⟩:=h
       have gS:=hb
       simp only[peq,if_true] at hb
       split at hb
       ·rename_i ys oW _
        have tF:=hv 0 e p rfl rfl
        rw[oW] at tF
        clear oW
        obtain⟨cs,rfl,hc⟩:=CellsR.of_agg iM
        obtain⟨ds,qu,hd⟩:=CellsR.of_agg tF
        have oX:P.fieldsOf kt=fs:=by simp[Program.fieldsOf,hu]
        have heq:=run_equalIn_struct (P:=P) w 9999 kt cs ds (by rw[oX]; exact hu) dx
        rw[oX,Ke hc hd hf (by simpa using hb)] at heq
        have mM:(Op.equal kt (.agg cs) e.key).run P w = .ok b w:=by
         rw[qu]
         simpa[Op.equal,Op.maxDepth] using heq
        cases b with
        | true =>
          simp at h; subst h
          exact .inr ⟨0,p.2,e,p.1,rfl,by simp[Instr.findAsking,mM],rfl,rfl,gS⟩
        | false =>
          simp at h
          rcases ih es (i+1) r (by simpa using hl) (λi e p a b=>hv (i+1) e p (by simpa using a) (by simpa using b)) h with⟨a1,a2⟩ | ⟨n,v,e',p1,a1,a2,a3,a4,a5⟩
          ·exact .inl ⟨a1,by simp[Instr.findAsking,mM,a2]⟩
          ·exact .inr ⟨n+1,v,e',p1,by rw[a1]; simp; omega,by simp[Instr.findAsking,mM,a2]; omega,by simpa using a3,by simpa using a4,a5⟩
       ·simp at hb
  have pZ:(Instr.findKey kt kv mes).run P w=(Instr.findAsking kt kv mes 0).run P w:=by
   obtain⟨cs,rfl,_⟩:=Km h
   obtain⟨vs,rfl,_⟩:=CellsR.of_agg iM
   unfold Instr.findKey
   simp only[Sem.run_bind,run_underlying hu,Result.andThen_ok]
   cases mes with
   | nil=>simp[Instr.findNow,Instr.findAsking]
   | cons e mes =>
     have:Instr.findNow (.struct fs) (.agg vs) (e::mes) 0=none:=by simp[Instr.findNow,Instr.sameNow]
     rw[this]
  rw[pZ]
  rcases ask mes es 0 r hl hv h with h|⟨n,v,e,p1,a1,a2,a3⟩
  ·exact .inl h
  ·exact .inr ⟨n,v,e,p1,by simpa using a1,by simpa using a2,a3⟩
theorem LH {fix:Nat→Nat→Prop} {hp:Nat→Option Nat} {t:TypeId} {z:PV} (h:Dh P t=some z):∃zv,(zeroValue t).run P w = .ok zv w∧VR N w fix hp zv z∧((∃es,z = .list true es∧zv = .slice none 0 0)∨cp z=some z):=by
 unfold Dh at h
 split at h
 ·rename_i i hi
  simp only[af] at h
  obtain⟨zv,h1,h2⟩:=h
  exact⟨zv,by simp[zeroValue,typeInfo,hi,h1],ON h2,Kb h2⟩
 ·simp at h
theorem VR.cp_dem' {fix:Nat→Nat→Prop} {hp:Nat→Option Nat} {v:Value} {p:PV} (h:VR N w fix hp v p):cp (PI.dem p)=some (PI.dem p):=by
 cases h<;>rfl
theorem Ko (hf:FI N w G st a vs (vS vs ops)) {n b:Nat} {es:List (PV×PV)} (hg:wP st (some n)=some es) (hb:G.heap n=some b):
  G.ow b=some (.hobj n)∧st.heap[n]? = some (.map es)∧ObjR N w G n b (.map es):=by
 unfold wP at hg
 simp only at hg
 split at hg
 ·rename_i es' hn
  simp at hg; subst hg
  rcases hf.heap.1 n _ hn with e|⟨b',h1,h2,h3⟩
  ·simp at e
  have:b'=b:=by rw[hb] at h1; simpa using h1.symm
  subst this
  exact⟨h2,hn,h3⟩
 ·simp at hg
theorem MR.read {key:Key} {v:Value} {p:PV} (h:MR N w G key v p):VR N w G.fix G.heap v (dem p):=h.1.dem
theorem b6i (hE:EnvOk E N) (nm:Names vs (vS vs ops)) (ho:ops[j]? = some o) (hf:FI N w G st a vs (vS vs ops)) {t kt e:TypeId} {m x:Operand} {ok:Bool} {kk:Bool×List EK} {z:PV} {pm px:PX} {tk:Bool}
  (cL:o.op = .lookup t m x ok) (hu:P.underlying t=some (.map kt e)) (eO:Cc P kt=some kk) (hz:Dh P e=some z) (hm:cx E vs ops m=some pm) (hx:cx E vs ops x=some px) {cf:vZ}
  (hs:vW cf (.lookup ok tk kk.1 kk.2 z pm px) st=some (u,st1)) (hk:wn N w G a st1 u vs ops j o next):o.wp P a w next Q:=by
 obtain⟨zv,eI,eA,lj⟩:=LH (P:=P) (N:=N) (w:=w) (fix:=G.fix) (hp:=G.heap) hz
 simp only[vW] at hs
 split at hs
 ·rename_i n k pj sk
  have iM:=(wB hE hx hf sk).1
  have mN:=(wB hE hm hf pj).1
  simp only[af] at hs
  obtain⟨es,hg,r,fC,hs⟩:=hs
  have run:∀(mes:Array MapEntry) (r':Option (Nat×Value)),(a.eval m = .map none∧mes = #[]∨∃b clock,a.eval m = .map (some b)∧w.heap[b]? = some (.map mes clock))→(Instr.findKey kt (a.eval x) mes.toList).run P w = .ok r' w →
    (execOp a.eval o).run P w = .ok (.value (if ok then .tuple #[(r'.map Prod.snd).getD zv,.bool r'.isSome] else(r'.map Prod.snd).getD zv)) w:=by
   intro mes r' h1 h2
   have pZ:=h2
   rcases h1 with⟨h1,rfl⟩|⟨b,clock,h1,h3⟩
   ·simp only[execOp,cL,Instr.lookup,Sem.run_bind,run_underlying hu,Result.andThen_ok,h1,Sem.run_pure,Hg eO iM fC,pZ]
    cases r' with
    | none=>simp[eI]
    | some q=>simp
   ·simp only[execOp,cL,Instr.lookup,Sem.run_bind,run_underlying hu,Result.andThen_ok,h1,run_getObj_map h3,Sem.run_pure,Hg eO iM fC,pZ]
    cases r' with
    | none=>simp[eI]
    | some q=>simp
  generalize lP:a.eval m=mv at mN run
  cases mN with
  | mapn =>
    simp only[wP,aa] at hg
    subst hg
    have h0:=Kn (P:=P) eO iM (mes:=[]) (es:=[]) rfl (by simp) fC
    have j8:r=none∧(Instr.findKey kt (a.eval x) []).run P w = .ok none w:=by
     rcases h0 with h0|⟨n,v,e,p1,_,_,h3,_⟩
     ·exact h0
     ·simp at h3
    obtain⟨rfl,ev⟩:=j8
    simp only[aa,ac] at hs
    obtain⟨rfl,rfl⟩:=hs
    have cM:=run #[] none (.inl ⟨rfl,rfl⟩) ev
    simp only[cq,Option.getD_none,Option.isSome_none] at cM
    cases ok with
    | true =>
      refine wD nm ho hf cM (SR.of_pure (.tuple _ _ rfl ?_) rfl) hk
      intro i c p hc hp
      match i,hc,hp with
      | 0,hc,hp=>simp at hc hp; subst hc hp; exact eA
      | 1,hc,hp=>simp at hc hp; subst hc hp; exact .bool _
    | false =>
      refine wD nm ho hf cM ?_ hk
      rcases lj with⟨es,rfl,rfl⟩|h
      ·exact⟨eA,trivial⟩
      ·exact SR.of_pure eA h
  | map n b hb =>
    obtain⟨eo,rW,hobj⟩:=Ko hf hg hb
    obtain⟨mes,clock,a1,a2,a3,a4,a5⟩:=hobj
    have hK:(Value.map (some b) = .map none∧mes = #[])∨∃b' clock,Value.map (some b) = .map (some b')∧w.heap[b']? = some (.map mes clock) := .inr ⟨b,clock,rfl,a1⟩
    rcases Kn eO iM (mes:=mes.toList) (es:=es) (by simpa using a2) (λi e p h1 h2=>(a5 i e p (by simpa using h1) h2).1) fC with⟨rfl,h2⟩ | ⟨i,v,en,p1,rfl,h2,h3,h4,_⟩
    ·have cM:=run mes none hK h2
     simp only[aa,ac] at hs
     obtain⟨rfl,rfl⟩:=hs
     simp only[cq,Option.getD_none,Option.isSome_none] at cM
     cases ok with
     | true =>
       refine wD nm ho hf cM (SR.of_pure (.tuple _ _ rfl ?_) rfl) hk
       intro i c p hc hp
       match i,hc,hp with
       | 0,hc,hp=>simp at hc hp; subst hc hp; exact eA
       | 1,hc,hp=>simp at hc hp; subst hc hp; exact .bool _
     | false =>
       refine wD nm ho hf cM ?_ hk
       rcases lj with⟨es,rfl,rfl⟩|h
       ·exact⟨eA,trivial⟩
       ·exact SR.of_pure eA h
    ·have cM:=run mes _ hK h2
     have kP:=(a5 i en (p1,v) (by simpa using h3) h4).2
     simp only[ay,bL,Option.isSome_some] at cM
     simp only at hs
     split at hs
     ·
      rename_i ec
      simp only[am,bF] at ec
      obtain⟨⟨_,cV⟩,eK⟩:=ec
      subst cV
      have:∃l,v = .list true l:=by
       unfold Fp at eK
       split at eK
       ·exact⟨_,rfl⟩
       ·simp at eK
      obtain⟨l,rfl⟩:=this
      simp only[aa,ac] at hs
      obtain⟨rfl,rfl⟩:=hs
      obtain⟨cR,dm⟩:=kP
      obtain⟨G',hG,fe⟩:=Room.give (key':=xJ (wv vs o.dst) j) dm
      have gM:G'.box=G.box∧G'.fix=G.fix∧G'.heap=G.heap:=by
       rcases hG with rfl|⟨b,_,rfl⟩<;>exact⟨rfl,rfl,rfl⟩
      have cJ:Ext w G w G':=by
       rcases hG with rfl|⟨b,hb,rfl⟩
       ·exact Ext.refl _ _
       ·exact G6 b _ (λ_=>by simp[hb])
      have cN:xa (λk=>k = .hcell n i) w G w G':=by
       rcases hG with rfl|⟨b,hb,rfl⟩
       ·exact⟨λb k h _=>⟨h,rfl,λ_ h=>h⟩,λ_ _ h=>h⟩
       ·exact G7 b _ (λk' dg=>by rw[hb] at dg; simpa using dg.symm)
      have db:FI N w G' (wA st n (.map (es.modify i λe=>(e.1,dem e.2)))) a vs (vS vs ops):=by
       refine⟨hf.len,λi' t' u' h1 h2=>(hf.var i' t' u' h1 h2).keep cJ cN (by simp) (by simp),λi' t' u' h1 h2=>(hf.loc i' t' u' h1 h2).keep cJ cN (by simp) (by simp),hf.tv,hf.tl,(hf.defers.trans cJ.df.symm),by rw[gM.1]; exact hf.gen,?_,by rw[gM.2.1]; exact hf.fixlt,?_,?_⟩
       ·intro b' k cX
        rcases hG with rfl|⟨b2,dB,rfl⟩
        ·exact hf.owlt _ _ cX
        ·simp only[GS.give] at cX
         split at cX
         ·subst_vars; exact hf.owlt _ _ dB
         ·exact hf.owlt _ _ cX
       ·refine hf.heap.keepBut cJ cN (λn' k c9=>⟨by simp,by simp; omega⟩) (λ_ =>?_)
        refine .inr ⟨b,cJ.heap _ _ hb,(cN.1 _ _ eo (by simp)).1,mes,clock,a1,by simpa using a2,a3,a4,?_⟩
        intro i' e' p' dy ek
        rw[aZ] at ek
        by_cases jm:i=i'
        ·subst jm
         rw[h4] at ek
         simp at ek; subst ek
         have:e'=en:=by rw[← bN] at dy; rw[h3] at dy; simpa using dy.symm
         subst this
         obtain⟨b1,b2⟩:=a5 i e' (p1,.list true l) dy h4
         exact⟨b1.ext cJ,(b2.1.dem).ext cJ,trivial⟩
        ·simp only[jm,if_false,cG] at ek
         have hp'':es[i']? = some p':=by simpa using ek
         obtain⟨b1,b2⟩:=a5 i' e' p' dy hp''
         exact⟨b1.ext cJ,b2.keep cJ cN (by simp; omega)⟩
       ·rw[gM.2.2]; simp only[wA,bJ]; exact hf.hdom
      unfold Oper.wp
      rw[cM]
      exact hk _ _ G' (db.put nm (yI ho) ⟨cR.ext cJ,fe⟩) cJ (yJ _ _ _)
     ·simp only[aa,ac] at hs
      obtain⟨rfl,rfl⟩:=hs
      have mQ:VR N w G.fix G.heap en.val (dem v):=kP.1.dem
      cases ok with
      | true =>
        refine wD nm ho hf cM (SR.of_pure (.tuple _ _ rfl ?_) rfl) hk
        intro i c p hc hp
        match i,hc,hp with
        | 0,hc,hp=>simp at hc hp; subst hc hp; exact mQ
        | 1,hc,hp=>simp at hc hp; subst hc hp; exact .bool _
      | false=>exact wD nm ho hf cM (SR.of_pure mQ kP.1.cp_dem') hk
 ·simp at hs
theorem c0T {b:Nat} (hb:b<w.heap.size) (gD:∃mes clock,w.heap[b]? = some (.map mes clock)) (fl:G.ow b≠none) (mes':Array MapEntry) (clock':Nat):
  let w':World:={ w with heap:=w.heap.setIfInBounds b (.map mes' clock') }
  Ext w G w' G∧w'.heap[b]? = some (.map mes' clock')∧∀x,x≠b→w'.heap[x]? = w.heap[x]? := by
 intro w'
 have ea:∀x,x≠b→w'.heap[x]? = w.heap[x]? := λx hx=>by simp[w',aY,Ne.symm hx]
 have fc:w'.heap[b]? = some (.map mes' clock'):=by simp[w',aY,hb]
 refine⟨⟨rfl,rfl,rfl,by simp[w'],?_,?_,λ_ _ h => .inl h,λ_ h => .inr h,λ_ _ h=>h,.one b (λk _ hk=>ea k hk) (λs hx=>by obtain⟨mes,clock,h⟩:=gD; simp[World.shape?,h] at hx) (λs hx=>by obtain⟨mes,clock,h⟩:=gD; simp[yd,h] at hx),rfl⟩,fc,ea⟩
 ·intro x _ hx
  exact ea x (by rintro rfl; exact fl hx)
 ·intro x o hx
  refine⟨hx,?_⟩
  by_cases gc:x=b
  ·subst gc
   obtain⟨mes,clock,h⟩:=gD
   simp only[World.cell?,fc,h]
  ·simp only[World.cell?,ea x gc]
theorem Pa (hE:EnvOk E N) (nm:Names vs (vS vs ops)) (ho:ops[j]? = some o) (hf:FI N w G st a vs (vS vs ops)) {t kt e:TypeId} {m x y:Operand} {kk:Bool×List EK} {pm px py:PX}
  (cL:o.op = .mapUpdate t m x y∨o.op = .insert t m x y) (dU:o.dst=none) (hu:P.underlying t=some (.map kt e)) (eO:Cc P kt=some kk) (hm:cx E vs ops m=some pm) (hx:cx E vs ops x=some px) (hy:cx E vs ops y=some py) {cf:vZ}
  (hs:vW cf (.mset kk.1 kk.2 pm px py) st=some (u,st1)) (hk:wn N w G a st1 u vs ops j o next):o.wp P a w next Q:=by
 simp only[vW] at hs
 split at hs
 ·rename_i n k v st' pj sk ec
  have iM:=(wB hE hx hf sk).1
  have mN:=(wB hE hm hf pj).1
  simp only[af,ab] at hs
  obtain⟨es,hg,r,fC,hs⟩:=hs
  generalize lP:a.eval m=mv at mN
  cases mN with
  | map _ b hb =>
    let idx:Nat:=match r with | some (i,_)=>i | none=>es.length
    obtain⟨G1,db,dP,ii,eD,dC,cR,ff,_,_,_⟩:=DV hE hy hf ec (.hcell n idx)
    have eH:G1.heap n=some b:=by rw[dC]; exact hb
    obtain⟨eo,rW,hobj⟩:=Ko db hg eH
    obtain⟨mes,clock,a1,a2,a3,a4,a5⟩:=hobj
    have jA:VR N w G1.fix G1.heap (a.eval x) k:=by rw[eD,dC]; exact iM
    have mK:VR N w G1.fix G1.heap (a.eval y) v:=by rw[eD,dC]; exact cR
    have ll:MR N w G1 (.hcell n idx) (a.eval y) v:=by
     refine⟨mK,?_⟩
     split
     ·exact ff
     ·trivial
    have eX:b<w.heap.size:=db.owlt _ _ eo
    have fL:a.put o.dst undef=a:=by simp[dU,Act.put]
    have da:wv vs o.dst = .n:=by simp[dU,wv]
    have finish:∀(mes':Array MapEntry) (clock':Nat) (es':List (PV×PV)),(execOp a.eval o).run P w = .ok .skip { w with heap:=w.heap.setIfInBounds b (.map mes' clock') }→mes'.size=es'.length →
      (∀(i:Nat) (e:MapEntry),mes'[i]? = some e→e.born<clock')→(∀(i i':Nat) (e e':MapEntry),mes'[i]? = some e→mes'[i']? = some e'→e.born=e'.born→i=i') →
      (∀(i:Nat) (e:MapEntry) (p:PV×PV),mes'[i]? = some e→es'[i]? = some p→VR N w G1.fix G1.heap e.key p.1∧MR N w G1 (.hcell n i) e.val p.2)→u = .dead→st1=wA st' n (.map es')→o.wp P a w next Q:=by
     intro mes' clock' es' cM b2 b3 b4 b5 eM jS
     subst eM jS
     obtain⟨dF,fc,cU⟩:=c0T (G:=G1) eX ⟨mes,clock,a1⟩ (by rw[eo]; simp) mes' clock'
     unfold Oper.wp
     rw[cM]
     have du:xa (λk=>k = .hobj n) w G1 { w with heap:=w.heap.setIfInBounds b (.map mes' clock') } G1:=by
      refine⟨?_,λ_ _ h=>h⟩
      intro x k gz gp
      refine⟨gz,cU x ?_,λ_ h=>h⟩
      rintro rfl
      rw[eo] at gz
      simp at gz
      exact gp gz.symm
     have jw:FI N { w with heap:=w.heap.setIfInBounds b (.map mes' clock') } G1 (wA st' n (.map es')) a vs (vS vs ops):=by
      refine⟨db.len,λi t' u' h1 h2=>(db.var i t' u' h1 h2).keep dF du (by simp) (by simp),λi t' u' h1 h2=>(db.loc i t' u' h1 h2).keep dF du (by simp) (by simp),db.tv,db.tl,db.defers,db.gen,?_,?_,?_,?_⟩
      ·intro x k hx; simpa using db.owlt x k hx
      ·intro x o' hx; simpa using db.fixlt x o' hx
      ·refine db.heap.keepBut dF du (λn' k c9=>⟨by simp; omega,by simp⟩) (λ_ =>?_)
       refine .inr ⟨b,eH,eo,mes',clock',fc,b2,b3,b4,?_⟩
       intro i en p hi hp
       obtain⟨c1,c2⟩:=b5 i en p hi hp
       exact⟨c1.ext dF,c2.keep dF du (by simp)⟩
      ·simp only[wA,bJ]; exact db.hdom
     show next (a.put o.dst undef) _
     rw[fL]
     refine hk _ _ G1 ?_ (dP.trans dF) rfl
     rw[da]
     exact jw
    have gC:∀w',(Instr.mapUpdate t (.map (some b)) (a.eval x) (a.eval y)).run P w = .ok () w'→(execOp a.eval o).run P w = .ok .skip w':=by
     intro w' h
     rcases cL with cL|cL<;>simp[execOp,cL,lP,h]
    rcases Kn eO jA (mes:=mes.toList) (es:=es) (by simpa using a2) (λi e p h1 h2=>(a5 i e p (by simpa using h1) h2).1) fC with⟨rfl,h2⟩ | ⟨i,v',en,p1,rfl,h2,h3,h4,h5⟩
    ·
     simp only[ac] at hs
     obtain⟨rfl,rfl⟩:=hs
     refine finish (mes.push { key:=a.eval x,val:=a.eval y,born:=clock }) (clock+1) (es++[(k,v)]) (gC _ ?_) (by simp[a2]) ?_ ?_ ?_ rfl rfl
     ·simp only[Instr.mapUpdate,Sem.run_bind,run_underlying hu,Result.andThen_ok,run_getObj_map a1,Hg eO jA fC,h2,run_setObj_map _ a1]
     ·intro i e' dy
      rw[Array.getElem?_push] at dy
      split at dy
      ·simp at dy; subst dy; simp
      ·have:=a3 i e' dy; omega
     ·intro i i' e' e'' dy he'' ik
      rw[Array.getElem?_push] at dy he''
      split at dy<;>split at he''
      ·omega
      ·simp at dy; subst dy
       have:=a3 i' e'' he''; simp at ik; omega
      ·simp at he''; subst he''
       have:=a3 i e' dy; simp at ik; omega
      ·exact a4 i i' e' e'' dy he'' ik
     ·intro i e' p dy hp
      rw[Array.getElem?_push] at dy
      split at dy
      ·rename_i hi
       simp at dy; subst dy
       rw[ap (by omega)] at hp
       have:i - es.length=0:=by omega
       rw[this] at hp
       simp at hp; subst hp
       refine⟨jA,?_⟩
       have je:idx=i:=by show es.length=i; omega
       rw[je] at ll
       exact ll
      ·have hi:i<es.length:=by have:=(aX.1 dy).1; omega
       rw[al hi] at hp
       exact a5 i e' p dy hp
    ·
     simp only[ac] at hs
     obtain⟨rfl,rfl⟩:=hs
     have je:idx=i:=by show i=i; rfl
     rw[je] at ll
     have cO:i<mes.size:=by have:=(aj.1 h3).1; simpa using this
     have kW:mes[i]? = some en:=by rw[← bN]; exact h3
     have pu:Instr.sameBits 10000 en.key (a.eval x)=true:=b9f jA (a5 i en (p1,v') kW h4).1 h5 9999
     refine finish (mes.modify i λe=>{ e with key:=a.eval x,val:=a.eval y }) clock (es.set i (k,v)) (gC _ ?_) (by simp[a2]) ?_ ?_ ?_ rfl rfl
     ·simp only[Instr.mapUpdate,Sem.run_bind,run_underlying hu,Result.andThen_ok,run_getObj_map a1,Hg eO jA fC,h2,kW,ay,bL,Instr.keyThatStays,pu,if_true,Sem.run_pure,run_setObj_map _ a1]
     ·intro i' e' dy
      rw[Array.getElem?_modify] at dy
      split at dy
      ·simp only[ab] at dy
       obtain⟨e2,h6,rfl⟩:=dy
       exact a3 i' e2 h6
      ·exact a3 i' e' dy
     ·have cX:∀(i':Nat) (e':MapEntry),(mes.modify i λe=>{ e with key:=a.eval x,val:=a.eval y })[i']? = some e'→∃e2:MapEntry,mes[i']? = some e2∧e2.born=e'.born:=by
       intro i' e' dy
       rw[Array.getElem?_modify] at dy
       split at dy
       ·simp only[ab] at dy
        obtain⟨e2,h6,rfl⟩:=dy
        exact⟨e2,h6,rfl⟩
       ·exact⟨e',dy,rfl⟩
      intro i1 i2 e1 e2 vK qx ik
      obtain⟨f1,g1,g2⟩:=cX i1 e1 vK
      obtain⟨f2,g3,g4⟩:=cX i2 e2 qx
      exact a4 i1 i2 f1 f2 g1 g3 (by rw[g2,g4,ik])
     ·intro i' e' p dy hp
      rw[Array.getElem?_modify] at dy
      rw[aI] at hp
      split at dy
      ·rename_i jm
       subst jm
       rw[ah rfl] at hp
       split at hp
       ·simp at hp; subst hp
        rw[kW] at dy
        simp at dy; subst dy
        exact⟨jA,ll⟩
       ·simp at hp
      ·rename_i jm
       rw[ae jm] at hp
       exact a5 i' e' p dy hp
 ·simp at hs
theorem b9g (hE:EnvOk E N) (nm:Names vs (vS vs ops)) (ho:ops[j]? = some o) (hf:FI N w G st a vs (vS vs ops)) {t kt e:TypeId} {ts:Array TypeId} {x:Operand} {px:PX} (cL:o.op = .call { callee := .builtin .len,args := #[x],argTypes:=ts })
  (h0:ts[0]? = some t) (hu:P.underlying t=some (.map kt e)) (hx:cx E vs ops x=some px) {cf:vZ} (hs:vW cf (.mlen px) st=some (u,st1)) (hk:wn N w G a st1 u vs ops j o next):o.wp P a w next Q:=by
 simp only[vW] at hs
 split at hs
 ·rename_i n hp
  simp only[ab,ac] at hs
  obtain⟨es,hg,rfl,rfl⟩:=hs
  have h:=(wB hE hx hf hp).1
  generalize hv:a.eval x=v at h
  refine wD nm ho hf ?_ (SR.of_pure (.int _ _) rfl) hk
  cases h with
  | mapn =>
    simp only[wP,aa] at hg
    subst hg
    simp only[execOp,cL,resolve,Sem.run_bind,Sem.run_pure,Result.andThen_ok,invoke,builtin,Builtin.len_,h0,List.map_toArray,aF,bA,hv,bC,ci,run_underlying hu,goInt]
    rfl
  | map n b hb =>
    obtain⟨_,_,mes,clock,a1,a2,_⟩:=Ko hf hg hb
    simp only[execOp,cL,resolve,Sem.run_bind,Sem.run_pure,Result.andThen_ok,invoke,builtin,Builtin.len_,h0,List.map_toArray,aF,bA,hv,bC,ci,run_underlying hu,goInt,run_getObj_map a1,a2]
 ·simp at hs
theorem b9h (hE:EnvOk E N) {x:Operand} {px:PX} (hc:cx E vs ops x=some px) (hf:FI N w G st a vs (vS vs ops)) (ht:zc st px=some (u,st1)):
  ∃G',FI N w G' st1 a vs (vS vs ops)∧Ext w G w G'∧VR N w G'.fix G'.heap (a.eval x) u:=by
 by_cases iD:∃i g cs,px = .v i∧raw st px=some (.loc g cs)
 ·obtain⟨i,g,cs,rfl,hr⟩:=iD
  simp only[zc,hr,aa,ac] at ht
  obtain⟨rfl,rfl⟩:=ht
  have hs:=Bf hE hc hf hr
  obtain⟨b,i',hk,hv,hb,ho,gI,cv,T,hh,hl,iy⟩:=hs
  simp only[yH,Key.var.injEq] at hk
  subst hk
  have eX:=hf.owlt _ _ ho
  let G':GS:={ G with fix:=λb' o=>G.fix b' o∨(b'=b∧o<cs.length),ow:=λb'=>if b'=b then none else G.ow b' }
  have cJ:Ext w G w G':=by
   refine⟨rfl,rfl,rfl,ao _,λ_ _ _=>rfl,λ_ _ h=>⟨.inl h,rfl⟩,?_,?_,λ_ _ h=>h,ShapeLe.refl w,rfl⟩
   ·rintro b' o (h|⟨rfl,_⟩)
    ·exact .inl h
    ·refine .inr (.inr ?_)
     rw[show G.ow b'=some (yH (.v i)) from ho]; simp
   ·intro b' h
    simp only[G'] at h
    split at h
    ·simp at h
    ·exact .inr h
  have cN:xa (λk=>k = .var i) w G w G':=by
   refine⟨?_,λ_ _ h=>h⟩
   intro b' k cX hn
   have c9:b'≠b:=by rintro rfl; rw[show G.ow b'=some (yH (.v i)) from ho] at cX; simp[yH] at cX; exact hn cX.symm
   refine⟨by simp only[G']; rw[ae c9]; exact cX,rfl,?_⟩
   rintro o (h|⟨h,_⟩)
   ·exact h
   ·exact absurd h c9
  have cR:VR N w G'.fix G'.heap (a.eval x) (.cptr (cs.map dem)):=by
   rw[hv]
   refine .cptr b 0 (cs.map dem) (λk=>cv.getD k undef) ?_ ?_ ?_
   ·intro y hy
    obtain⟨z,hz,rfl⟩:=aM.1 hy
    obtain⟨k,hk⟩:=bb.1 hz
    have cO:k<cv.size:=by have:=(aj.1 hk).1; omega
    rw[CB]
    exact(iy k cv[k] z (by simp[cO]) hk).2.1
   ·intro k hk
    simp only[aS] at hk
    have cO:k<cv.size:=by omega
    refine⟨?_,.inr ⟨rfl,by omega⟩⟩
    simp[World.cell?,hh,cO]
   ·intro k y hy
    simp only[aA,ab] at hy
    obtain⟨z,hz,rfl⟩:=hy
    have cO:k<cv.size:=by have:=(aj.1 hz).1; omega
    have:=(iy k cv[k] z (by simp[cO]) hz).1
    simp only[aK,Array.getElem?_eq_getElem cO,bL]
    exact this.dem.ext cJ
  have hx:∃t,vs[i]? = some t∧a.eval (.tmp t)=a.eval x:=by
   cases x with
   | tmp t =>
     simp only[cx] at hc
     split at hc
     ·rename_i i2 hi
      simp at hc; subst hc
      obtain⟨_,h2⟩:=BP hi
      exact⟨t,by simpa using h2,rfl⟩
     ·simp at hc
   | const v=>simp only[cx] at hc; split at hc<;>simp at hc
   | global g=>simp[cx] at hc
   | func f=>simp[cx] at hc
  obtain⟨tx,nj,kF⟩:=hx
  refine⟨G',?_,cJ,cR⟩
  refine⟨by simp[hf.len],?_,λj' t' u' h1 h2=>(hf.loc j' t' u' h1 h2).keep cJ cN (by simp) (by simp),hf.tv,hf.tl,hf.defers,hf.gen,?_,?_,hf.heap.keep cJ cN (by rintro k hk rfl; simp[Key.isH] at hk),hf.hdom⟩
  ·intro i' t' u' h1 h2
   simp only[aI] at h2
   split at h2
   ·rename_i hi
    subst hi
    split at h2
    ·simp at h2; subst h2
     have:t'=tx:=by rw[nj] at h1; simpa using h1.symm
     subst this
     exact SR.of_pure (kF▸cR) rfl
    ·simp at h2
   ·rename_i hi
    exact(hf.var i' t' u' h1 h2).keep cJ cN (by simp; omega) (by simp)
  ·intro b' k h
   simp only[G'] at h
   split at h
   ·simp at h
   ·exact hf.owlt _ _ h
  ·rintro b' o (h|⟨rfl,_⟩)
   ·exact hf.fixlt _ _ h
   ·exact eX
 ·have ft:zc st px=(rd st px).map (·,st):=by
   unfold zc
   split
   ·rename_i i g cs h; exact absurd ⟨i,g,cs,rfl,h⟩ iD
   ·rfl
  rw[ft] at ht
  simp only[ab,ac] at ht
  obtain⟨r,hr,rfl,rfl⟩:=ht
  exact⟨G,hf,Ext.refl _ _,(wB hE hc hf hr).1⟩
theorem Kq (hE:EnvOk E N):∀{xs:List Operand} {pxs:List PX} {G:GS} {st st1:St} {us:List PV},cxs E vs ops xs=some pxs→FI N w G st a vs (vS vs ops)→xE st pxs=some (us,st1) →
  ∃G',FI N w G' st1 a vs (vS vs ops)∧Ext w G w G'∧xs.length=us.length∧∀(i:Nat) (x:Operand) (u:PV),xs[i]? = some x→us[i]? = some u→VR N w G'.fix G'.heap (a.eval x) u
 | [], pxs, G, st, st1, us, hc, hf, h => by
   simp[cxs] at hc; subst hc
   simp only[xE,aa,ac] at h
   obtain⟨rfl,rfl⟩:=h
   exact⟨G,hf,Ext.refl _ _,rfl,by simp⟩
 | x :: xs, pxs, G, st, st1, us, hc, hf, h => by
   simp only[cxs,af,ab] at hc
   obtain⟨p,hp,ps,d4,rfl⟩:=hc
   simp only[xE,af,ab,ac] at h
   obtain⟨⟨v,st2⟩,h1,⟨q,st3⟩,h2,rfl,rfl⟩:=h
   obtain⟨G1,f1,e1,v1⟩:=b9h hE hp hf h1
   obtain⟨G2,f2,e2,l2,v2⟩:=Kq hE d4 f1 h2
   refine⟨G2,f2,e1.trans e2,by simp[l2],?_⟩
   intro i y z hy hz
   cases i with
   | zero=>simp at hy hz; subst hy hz; exact v1.ext e2
   | succ i=>exact v2 i y z (by simpa using hy) (by simpa using hz)
theorem b6j (hE:EnvOk E N) (nm:Names vs (vS vs ops)) (ho:ops[j]? = some o) (hf:FI N w G st a vs (vS vs ops)) {f:FuncId} {k:Nat} {xs ys:Array Operand} {ps qs:List PX} (cL:o.op = .makeFunc (.func f) xs ys) (dg:E.inv f=some k)
  (hx:cxs E vs ops xs.toList=some ps) (hy:cxs E vs ops ys.toList=some qs) {cf:vZ} (hs:vW cf (.mkfunc k ps qs) st=some (u,st1)) (hk:wn N w G a st1 u vs ops j o next):o.wp P a w next Q:=by
 simp only[vW,af,ab,ac] at hs
 obtain⟨⟨us,st2⟩,h1,⟨zs,st3⟩,h2,rfl,rfl⟩:=hs
 obtain⟨G1,f1,e1,l1,v1⟩:=Kq hE hx hf h1
 obtain⟨G2,f2,e2,l2,v2⟩:=Kq hE hy f1 h2
 have ev:=hE.fn _ _ dg
 have vL:=hE.yl _ _ dg
 unfold Oper.wp
 have cM:(execOp a.eval o).run P w = .ok (.value (.func (.func f) (xs.map a.eval) (ys.map a.eval))) w:=by
  simp[execOp,cL,Instr.makeFunc]
 rw[cM]
 refine hk _ _ G2 (f2.put nm (yI ho) (SR.of_pure ?_ rfl)) (e1.trans e2) (yJ _ _ _)
 subst ev
 refine .func k _ _ us zs vL (by simpa using l1) (by simpa using l2) ?_ ?_
 ·intro i c p hc hp
  simp only[bK,ab] at hc
  obtain⟨x,ei,rfl⟩:=hc
  exact(v1 i x p (by simpa using ei) hp).ext e2
 ·intro i c p hc hp
  simp only[bK,ab] at hc
  obtain⟨x,ei,rfl⟩:=hc
  exact v2 i x p (by simpa using ei) hp
theorem Hh {t:TypeId} {v c:Value} {b:Bool} (h:(Op.equalIn 10000 t v c).run P w = .ok b w) (op:BinOp) (cL:op = .eql∨op = .neq) (x y:Operand)
  (hg:(eqGuard op t x y v c).run P w = .ok () w) (eH:binOp .eql t v c=(do let r←Op.equal t v c; pure (.bool r))) (dB:binOp .neq t v c=(do let r←Op.equal t v c; pure (.bool !r))):
  (do eqGuard op t x y v c; binOp op t v c:Sem Value).run P w = .ok (.bool (if op == .neq then !b else b)) w:=by
 have h':(Op.equal t v c).run P w = .ok b w:=h
 rcases cL with rfl|rfl
 ·simp only[Sem.run_bind,hg,Result.andThen_ok,eH,h',Sem.run_pure]; rfl
 ·simp only[Sem.run_bind,hg,Result.andThen_ok,dB,h',Sem.run_pure]; rfl
theorem c0U {t e:TypeId} (hu:P.underlying t=some (.slice e)) (ad:Option Addr) (l c:Nat):(Op.equalIn 10000 t (.slice ad l c) (.slice none 0 0)).run P w = .ok ad.isNone w:=by
 unfold Op.equalIn
 simp only[Sem.run_bind,run_underlying hu,Result.andThen_ok]
 cases ad<;>rfl
theorem c5L {t e:TypeId} (hu:P.underlying t=some (.pointer e)) (ad:Option Addr):(Op.equalIn 10000 t (.pointer ad) (.pointer none)).run P w = .ok ad.isNone w:=by
 unfold Op.equalIn
 simp only[Sem.run_bind,run_underlying hu,Result.andThen_ok]
 cases ad<;>rfl
theorem c5M {t k e:TypeId} (hu:P.underlying t=some (.map k e)) (r:Option Nat):(Op.equalIn 10000 t (.map r) (.map none)).run P w = .ok r.isNone w:=by
 unfold Op.equalIn
 simp only[Sem.run_bind,run_underlying hu,Result.andThen_ok]
 cases r<;>rfl
theorem c0V {t:TypeId} {ms:Array (String×TypeId)} (hu:P.underlying t=some (.interface ms)) (v:Value) (b:Bool) (h:(v = .nilIface∧b=true)∨(∃t' x,v = .iface t' x)∧b=false):(Op.equalIn 10000 t v .nilIface).run P w = .ok b w:=by
 unfold Op.equalIn
 simp only[Sem.run_bind,run_underlying hu,Result.andThen_ok]
 rcases h with⟨rfl,rfl⟩|⟨⟨t',x,rfl⟩,rfl⟩<;>rfl
theorem b7p (hE:EnvOk E N) (nm:Names vs (vS vs ops)) (ho:ops[j]? = some o) (hf:FI N w G st a vs (vS vs ops)) {op:BinOp} {t t':TypeId} {x y:Operand} {px:PX} {kd:Nat} (cL:o.op = .binOp op t x y t')
  (fM:op = .eql∨op = .neq) (ht:HB P t y=some kd) (hx:cx E vs ops x=some px) {cf:vZ} (hs:vW cf (.isnil kd (op == .neq) px) st=some (u,st1)) (hk:wn N w G a st1 u vs ops j o next):o.wp P a w next Q:=by
 simp only[vW,ab,af,ac] at hs
 obtain⟨b,⟨p,hp,hb⟩,rfl,rfl⟩:=hs
 have hv:=(wB hE hx hf hp).1
 refine wD nm ho hf ?_ (SR.of_pure (.bool _) rfl) hk
 have iN:∀v c:Value,(∀cs,v≠.agg cs)→v≠.nilIface→(eqGuard op t x y v c).run P w = .ok () w:=by
  intro v c h1 h2
  rcases fM with rfl|rfl<;>cases v<;>cases c<;>first|rfl|exact absurd rfl h2|exact absurd rfl (h1 _)
 have key:(do eqGuard op t x y (a.eval x) (a.eval y); binOp op t (a.eval x) (a.eval y):Sem Value).run P w = .ok (.bool (if op == .neq then !b else b)) w:=by
  unfold HB at ht
  split at ht<;>simp only[aa,reduceCtorEq] at ht<;>subst ht
  ·rename_i hu
   have dc:∃ad l c,a.eval x = .slice ad l c∧ad.isNone=b:=by
    generalize a.eval x=v at hv
    unfold B0 at hb
    split at hb<;>simp only[aa,reduceCtorEq] at hb<;>subst hb<;>(try (rename_i h0; simp at h0))<;>cases hv<;>first|exact⟨_,_,_,rfl,rfl⟩|simp_all
   obtain⟨ad,l,c,ei,rfl⟩:=dc
   rw[ei]
   exact Hh (c0U hu ad l c) op fM x _ (iN _ _ (by simp) (by simp)) rfl rfl
  ·rename_i hu
   have dc:∃ad,a.eval x = .pointer ad∧ad.isNone=b:=by
    generalize a.eval x=v at hv
    unfold B0 at hb
    split at hb<;>simp only[aa,reduceCtorEq] at hb<;>subst hb<;>(try (rename_i h0; simp at h0))<;>cases hv<;>exact⟨_,rfl,rfl⟩
   obtain⟨ad,ei,rfl⟩:=dc
   rw[ei]
   exact Hh (c5L hu ad) op fM x _ (iN _ _ (by simp) (by simp)) rfl rfl
  ·rename_i hu
   have dc:∃ad,a.eval x = .map ad∧ad.isNone=b:=by
    generalize a.eval x=v at hv
    unfold B0 at hb
    split at hb<;>simp only[aa,reduceCtorEq] at hb<;>subst hb<;>(try (rename_i h0; simp at h0))<;>cases hv<;>exact⟨_,rfl,rfl⟩
   obtain⟨ad,ei,rfl⟩:=dc
   rw[ei]
   exact Hh (c5M hu ad) op fM x _ (iN _ _ (by simp) (by simp)) rfl rfl
  ·rename_i hu
   have dc:(a.eval x = .nilIface∧b=true)∨(∃t' z,a.eval x = .iface t' z)∧b=false:=by
    generalize a.eval x=v at hv
    unfold B0 at hb
    split at hb<;>simp only[aa,reduceCtorEq] at hb<;>subst hb<;>(try (rename_i h0; simp at h0))<;>cases hv<;>first|exact .inl ⟨rfl,rfl⟩|exact .inr ⟨⟨_,_,rfl⟩,rfl⟩
   have hg:(eqGuard op t x (.const .nilIface) (a.eval x) .nilIface).run P w = .ok () w:=by
    rcases dc with⟨h,_⟩|⟨⟨t',z,h⟩,_⟩<;>rw[h]<;>rcases fM with rfl|rfl<;>simp[eqGuard]
   have he:=c0V (P:=P) (w:=w) hu _ _ dc
   refine Hh he op fM x _ hg ?_ ?_<;>(rcases dc with⟨h,_⟩|⟨⟨t',z,h⟩,_⟩<;>rw[h]<;>rfl)
 simp only[execOp,cL,Sem.run_bind,key,Result.andThen_ok,Sem.run_pure]
theorem b7q (hE:EnvOk E N) (nm:Names vs (vS vs ops)) (ho:ops[j]? = some o) (hf:FI N w G st a vs (vS vs ops)) {t:TypeId} {n:Nat} {x:Operand} {px:PX} (cL:o.op = .load t x) (hn:wx P t=some n)
  (hx:cx E vs ops x=some px) {cf:vZ} (hs:vW cf (.loadc n (wQ P t) px) st=some (u,st1)) (hk:wn N w G a st1 u vs ops j o next):o.wp P a w next Q:=by
 simp only[vW] at hs
 split at hs
 ·rename_i cs ha
  simp only[ab,ac] at hs
  obtain⟨r,hr,rfl,rfl⟩:=hs
  obtain⟨r',h1,h2,h3⟩:=Kd (P:=P) hn (wB hE hx hf ha).1 hr
  exact wD nm ho hf (by simp[execOp,cL,h1]) (SR.of_pure h2 h3) hk
 ·simp at hs
theorem b6k (hE:EnvOk E N) (nm:Names vs (vS vs ops)) (ho:ops[j]? = some o) (hf:FI N w G st a vs (vS vs ops)) {x:Operand} {px:PX} (cL:o.op = .nilCheck x)
  (hx:cx E vs ops x=some px) {cf:vZ} (hs:vW cf (.nilchk px) st=some (u,st1)) (hk:wn N w G a st1 u vs ops j o next):o.wp P a w next Q:=by
 have run:∀ad,a.eval x = .pointer (some ad)→(execOp a.eval o).run P w = .ok (.value (.pointer (some ad))) w:=by
  intro ad h
  simp[execOp,cL,h]
 simp only[vW] at hs
 split at hs
 ·rename_i n off ha
  simp only[aa,ac] at hs
  obtain⟨rfl,rfl⟩:=hs
  obtain⟨b,hv,hb⟩:=He hE hx hf ha
  exact wD nm ho hf (run _ hv) (SR.of_pure (.ptr _ _ b hb) rfl) hk
 ·rename_i cs ha
  simp only[aa,ac] at hs
  obtain⟨rfl,rfl⟩:=hs
  rcases AQ hE hx hf ha with⟨_,_,_,_,h,_⟩|⟨h,_⟩
  ·simp at h
  ·generalize hv:a.eval x=v at h
   have h':=h
   cases h with
   | cptr b off _ cv _ _ _=>exact wD nm ho hf (run _ hv) (SR.of_pure h' rfl) hk
 ·rename_i s g off ha
  simp only[aa,ac] at hs
  obtain⟨rfl,rfl⟩:=hs
  rcases AQ hE hx hf ha with⟨_,_,_,b,h,hv,hb⟩|⟨_,h⟩
  ·simp only[PV.lptr.injEq] at h
   obtain⟨rfl,rfl,rfl⟩:=h
   exact wD nm ho hf (run _ hv) (SR.lptr rfl hb) hk
  ·simp[cp] at h
 ·simp at hs
theorem b9i (hE:EnvOk E N) (nm:Names vs (vS vs ops)) (ho:ops[j]? = some o) (hf:FI N w G st a vs (vS vs ops)) {t e:TypeId} {n size:Nat} {parts:Array (Nat×Operand)} {z:List PV} {ps:List (Nat×Nat×PX)}
  (cL:o.op = .build t parts) (hu:P.underlying t=some (.array n e)) (hn:wx P e=some size) (hz:xN P t=some z)
  (hc:Cb E vs ops (λi=>some (i*size,size)) parts.toList=some ps) {cf:vZ} (hs:vW cf (.barr z ps) st=some (u,st1)) (hk:wn N w G a st1 u vs ops j o next):o.wp P a w next Q:=by
 simp only[vW,ab,af,ac] at hs
 obtain⟨rs,⟨qs,hq,wA⟩,rfl,rfl⟩:=hs
 obtain⟨i,zv,hi,ja,_,_,hR,hO⟩:=BG (N:=N) (w:=w) (fix:=G.fix) (hp:=G.heap) hz
 obtain⟨ie,d,oM,cQ,_,_⟩:=yt hn
 obtain⟨ds,h1,h2,h3⟩:=Kh hE hf hc hq wA hR hO
 refine wD nm ho hf (v := .agg ds) ?_ (SR.of_pure (by simpa using h2.agg h3) rfl) hk
 have hb:P.built t (parts.map λ(i,x)=>(i,a.eval x)).toList=some ds:=by
  simp only[Program.built,hi,hu,ja,oM,cQ]
  simpa using h1
 simp[execOp,cL,run_build w t _ ds hb]
theorem b9j (hE:EnvOk E N) (nm:Names vs (vS vs ops)) (ho:ops[j]? = some o) (hf:FI N w G st a vs (vS vs ops)) {t e:TypeId} {len n:Nat} {x i:Operand} {px pi:PX} (cL:o.op = .index t x i)
  (hu:P.underlying t=some (.array len e)) (hn:wx P e=some n) (hx:cx E vs ops x=some px) (hi:cx E vs ops i=some pi) {cf:vZ}
  (hs:vW cf (.idxA len n (wQ P e) px pi) st=some (u,st1)) (hk:wn N w G a st1 u vs ops j o next):o.wp P a w next Q:=by
 have eF:n≠0:=by obtain⟨_,_,_,_,h,_⟩:=yt hn; exact h
 simp only[vW] at hs
 split at hs
 ·rename_i ps k d4 gY
  split at hs
  ·rename_i ez
   simp only[ab,ac] at hs
   obtain⟨r,hr,rfl,rfl⟩:=hs
   obtain⟨cs,hv,hR⟩:=CellsR.of_agg (wB hE hx hf d4).1
   obtain⟨kk,fQ⟩:=Bg hE hi hf gY
   obtain⟨h1,h2,h3⟩:=CC hR hr eF (Bj hn)
   refine wD nm ho hf ?_ (SR.of_pure h2 h3) hk
   have hx:(part e cs (k.toNat*n)).run P w = .ok (if wQ P e then .agg ((cs.toList.drop (k.toNat*n)).take n).toArray else(cs.toList.drop (k.toNat*n)).headD undef) w:=by
    simp only[part,Sem.run_bind,C7 hn,Sem.run_ite,yY hn,Result.andThen_ok,Sem.run_pure]
    by_cases ha:wQ P e=true
    ·simp only[ha,if_true]
     congr 2
     apply Array.ext'
     simp
    ·simp only[Bool.not_eq_true] at ha
     have cO:k.toNat*n<cs.size:=by simp at h1; omega
     simp[ha,aQ (l:=cs.toList) (i:=k.toNat*n) (by simpa using cO),cO]
   simp[execOp,cL,Instr.index,fQ,asIntOf,run_underlying hu,hv,ez,yY hn,hx]
  ·simp at hs
 ·simp at hs
end
end PI
