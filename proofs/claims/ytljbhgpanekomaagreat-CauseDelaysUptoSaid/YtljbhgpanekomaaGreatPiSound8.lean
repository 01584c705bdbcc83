import Derived.Test.YtljbhgpanekomaaGreatPiSound1
import Derived.Laws.BytesArg
import Derived.Lib.ConvBytes
import Derived.MapKept
set_option linter.unusedSimpArgs false
set_option linter.unusedVariables false
set_option linter.unusedSectionVars false
namespace PI
open Go
theorem FI.extDst {N:Nm} {w w':World} {G G':GS} {st:St} {a:Act} {vs:List Tmp} {lm:Nat→Option Tmp} {j:Nat} {d:PD} {dst:Option Tmp} {v:Value} {u:PV}
  (h:FI N w G st a vs lm) (nm:Names vs lm) (hd:Im vs lm j d dst) (di:d≠.n) (e:Ext w G w' G') (hk:xa (λk=>k=xU d j) w G w' G')
  (hg:∀g b,G'.box g=some b→g<st.gen) (ho:∀b k,G'.ow b=some k→b<w'.heap.size) (hx:∀b o,G'.fix b o→b<w'.heap.size) (hh:G'.heap=G.heap) (hs:SR N w' G' (xU d j) v u):
  FI N w' G' (PI.put st j d u) (a.put dst v) vs lm:=by
 cases d with
 | n=>exact absurd rfl di
 | v i =>
   obtain⟨t,rfl,ht⟩:=hd
   have cV:=h.tv i t ht
   refine⟨by simp[PI.put,h.len],?_,?_,?_,?_,(h.defers.trans e.df.symm),hg,ho,hx,h.heap.keep e hk (by intro k hk e; subst e; simp[xU,Key.isH] at hk),by rw[hh]; exact h.hdom⟩
   ·intro i' t' u' h1 h2
    rw[Dc _ _ _ _ cV]
    simp only[PI.put,aO] at h2
    by_cases hi:i=i'
    ·subst hi
     have:t'=t:=by rw[ht] at h1; simpa using h1.symm
     subst this
     split at h2
     ·split at h2
      ·simp at h2; subst h2; simp only[if_true]; exact hs
      ·simp at h2
     ·exact absurd rfl ‹_›
    ·rw[af hi] at h2
     have cZ:t'≠t:=λe=>hi (nm.vnd i i' t ht (e▸h1))
     rw[af cZ]
     exact(h.var i' t' u' h1 h2).keep e hk (by simp[xU]; omega) (by simp[xU])
   ·intro j' t' u' h1 h2
    rw[Dc _ _ _ _ cV,af (λe:t'=t=>nm.sep j' t' i h1 (e▸ht))]
    exact(h.loc j' t' u' h1 h2).keep e hk (by simp[xU]) (by simp)
   ·intro i' t' h1; simpa[Act.put] using h.tv i' t' h1
   ·intro j' t' h1; simpa[Act.put] using h.tl j' t' h1
 | l =>
   obtain⟨t,rfl,ht⟩:=hd
   have cV:=h.tl j t ht
   refine⟨h.len,?_,?_,?_,?_,(h.defers.trans e.df.symm),hg,ho,hx,h.heap.keep e hk (by intro k hk e; subst e; simp[xU,Key.isH] at hk),by rw[hh]; exact h.hdom⟩
   ·intro i' t' u' h1 h2
    rw[Dc _ _ _ _ cV,af (λe:t'=t=>nm.sep j t i' ht (e▸h1))]
    exact(h.var i' t' u' h1 h2).keep e hk (by simp[xU]) (by simp[xU])
   ·intro j' t' u' h1 h2
    rw[Dc _ _ _ _ cV]
    simp only[PI.put,aO] at h2
    by_cases hj:j=j'
    ·subst hj
     have:t'=t:=by rw[ht] at h1; simpa using h1.symm
     subst this
     split at h2
     ·split at h2
      ·simp at h2; subst h2; simp only[if_true]; exact hs
      ·simp at h2
     ·exact absurd rfl ‹_›
    ·rw[af hj] at h2
     have cZ:t'≠t:=λe=>hj (nm.lnd j j' t ht (e▸h1))
     rw[af cZ]
     exact(h.loc j' t' u' h1 h2).keep e hk (by simp[xU]; omega) (by simp)
   ·intro i' t' h1; simpa[Act.put] using h.tv i' t' h1
   ·intro j' t' h1; simpa[Act.put] using h.tl j' t' h1
theorem SR.own {N:Nm} {w:World} {G:GS} {key:Key} {v:Value} {es:List PV} (h:VR N w G.fix G.heap v (.list true es)) (hr:Room w G key v es):SR N w G key v (.list true es):=⟨h,hr⟩
structure ListR (N:Nm) (w:World) (fix:Nat→Nat→Prop) (hp:Nat→Option Nat) (size:Nat) (news:List Value) (es:List PV):Prop where
 len:news.length=es.length*size
 sz:∀e∈es,e.cells.length=size
 flat:∀e∈es,∀x∈e.cells,x.flat=true
 vr:∀(i:Nat) (e:PV),es[i]? = some e→∀(k:Nat) (c:Value) (x:PV),news[i*size+k]? = some c→e.cells[k]? = some x→VR N w fix hp c x
section
variable {E:Env} {N:Nm} {w:World} {G:GS} {st:St} {a:Act} {vs:List Tmp} {ops:List Oper} {P:Program}
variable {o:Oper} {j:Nat} {next:Act→World→Prop} {Q:Exit→Act→World→Prop} {u:PV} {st1:St}
theorem ListR.append {fix:Nat→Nat→Prop} {hp:Nat→Option Nat} {size:Nat} {xs ys:List Value} {es fs:List PV} (h:ListR N w fix hp size xs es) (k:ListR N w fix hp size ys fs) (hs:size≠0):
  ListR N w fix hp size (xs++ys) (es++fs):=by
 refine⟨by simp[h.len,k.len,aQ],?_,?_,?_⟩
 ·intro e he; rcases ay.1 he with he|he
  ·exact h.sz e he
  ·exact k.sz e he
 ·intro e he; rcases ay.1 he with he|he
  ·exact h.flat e he
  ·exact k.flat e he
 ·intro i e he m c x hc hx
  by_cases hi:i<es.length
  ·rw[am hi] at he
   have hm:m<size:=by have:=(ai.1 hx).1; have:=h.sz e (av he); omega
   rw[am (by rw[h.len]; exact Is hi hm)] at hc
   exact h.vr i e he m c x hc hx
  ·rw[ar (by omega)] at he
   have nR:xs.length≤i*size+m:=by
    rw[h.len]
    have:es.length*size≤i*size:=bo _ (by omega)
    omega
   rw[ar nR,h.len] at hc
   refine k.vr _ e he m c x ?_ hx
   rw[show (i - es.length)*size+m=i*size+m - es.length*size by
    rw[Nat.sub_mul]
    have:es.length*size≤i*size:=bo _ (by omega)
    omega]
   exact hc
theorem ListR.mono {w':World} {fix fix':Nat→Nat→Prop} {hp eM:Nat→Option Nat} {size:Nat} {xs:List Value} {es:List PV} (h:ListR N w fix hp size xs es)
  (hf:∀b o,fix b o→fix' b o∧w'.cell? ⟨b,o,none⟩=w.cell? ⟨b,o,none⟩) (hh:∀n b,hp n=some b→eM n=some b) (hs:ShapeLe w w'):ListR N w' fix' eM size xs es:=
 ⟨h.len,h.sz,h.flat,λi e he k c x hc hx=>(h.vr i e he k c x hc hx).mono hf hh hs⟩
theorem ListR.one {fix:Nat→Nat→Prop} {hp:Nat→Option Nat} {size:Nat} {xs:List Value} {es:List PV} (h:ListR N w fix hp size xs es) (hs:size≠0):∀c∈xs,c.oneCell'=true:=by
 intro c hc
 obtain⟨m,hm⟩:=bi.1 hc
 have cS:m<es.length*size:=by have:=(ai.1 hm).1; rw[h.len] at this; exact this
 have hi:m / size<es.length:=by rw[Nat.div_lt_iff_lt_mul (by omega)]; exact cS
 have hk:m % size<size:=bJ _ (by omega)
 have he:=al hi
 have eS:=av he
 have eW:m % size<(es[m / size]).cells.length:=by rw[h.sz _ eS]; exact hk
 have hx:=al eW
 have vQ:m / size*size+m % size=m:=by rw[cw]; exact Nat.div_add_mod m size
 have h1:=(h.vr _ _ he _ c _ (by rw[vQ]; exact hm) hx).oneCell (h.flat _ eS _ (av hx))
 cases c<;>first|rfl|simp[oneCell] at h1
theorem LT {fix:Nat→Nat→Prop} {hp:Nat→Option Nat} {size:Nat} {v:Value} {own:Bool} {es:List PV} (h:VR N w fix hp v (.list own es)) (hh:w6 size es=true):
  ∃ news, ListR N w fix hp size news es ∧ ((v = .slice none 0 0 ∧ es = [] ∧ news = []) ∨ (∃ ad cap, v = .slice (some ad) 0 cap ∧ es = [] ∧ news = []) ∨
    ∃b off cap,v = .slice (some ⟨b,off,none⟩) es.length cap∧es.length≤cap∧∀(j:Nat) (u:Value),news[j]? = some u→w.cell? ⟨b,off+j,none⟩=some u∧fix b (off+j)):=by
 cases h with
 | nils=>exact⟨[],⟨by simp,by simp,by simp,by simp⟩,.inl ⟨rfl,rfl,rfl⟩⟩
 | void _ ad cap=>exact⟨[],⟨by simp,by simp,by simp,by simp⟩,.inr (.inl ⟨ad,cap,rfl,rfl,rfl⟩)⟩
 | list _ b off len cap sz _ cv cO cX cV cU hcell cW =>
   subst cO
   by_cases h0:es=[]
   ·subst h0
    exact⟨[],⟨by simp,by simp,by simp,by simp⟩,.inr (.inr ⟨b,off,cap,rfl,cX,by simp⟩)⟩
   ·have hs:sz=size:=by
     cases es with
     | nil=>exact absurd rfl h0
     | cons y ys =>
       have:=cV y (by simp)
       simp[w6] at hh
       omega
    subst hs
    refine⟨(List.range (es.length*sz)).map cv,⟨by simp,cV,cU,?_⟩,.inr (.inr ⟨b,off,cap,rfl,cX,?_⟩)⟩
    ·intro i e he k c x hc hx
     simp only[az,ab] at hc
     obtain⟨m,hm,rfl⟩:=hc
     have:m=i*sz+k:=by
      have:=(ai.1 hm)
      obtain⟨h1,h2⟩:=this
      simp at h2; exact h2.symm
     subst this
     exact cW i e he k x hx
    ·intro j u hu
     simp only[az,ab] at hu
     obtain⟨m,hm,rfl⟩:=hu
     have jL:m=j∧j<es.length*sz:=by
      obtain⟨h1,h2⟩:=ai.1 hm
      simp at h1 h2; exact⟨h2.symm,h1⟩
     obtain⟨rfl,cS⟩:=jL
     exact hcell m cS
theorem Iu {fix:Nat→Nat→Prop} {hp:Nat→Option Nat} {size b off cap:Nat} {own:Bool} {es:List PV} {news:List Value} (h:ListR N w fix hp size news es) (cX:es.length≤cap)
  (hc:∀(j:Nat) (u:Value),news[j]? = some u→w.cell? ⟨b,off+j,none⟩=some u∧fix b (off+j)):VR N w fix hp (.slice (some ⟨b,off,none⟩) es.length cap) (.list own es):=by
 refine .list own b off es.length cap size es (λk=>news.getD k undef) rfl cX h.sz h.flat ?_ ?_
 ·intro k hk
  have cS:k<news.length:=by rw[h.len]; exact hk
  have:=hc k news[k] (al cS)
  simpa[List.getD,al cS] using this
 ·intro i e he k x hx
  have hk:k<size:=by have:=(ai.1 hx).1; have:=h.sz e (av he); omega
  have hi:i<es.length:=(ai.1 he).1
  have cS:i*size+k<news.length:=by rw[h.len]; exact Is hi hk
  have:=h.vr i e he k news[i*size+k] x (al cS) hx
  simpa[List.getD,al cS] using this
theorem Iv (P:Program) (g o:Nat) (t:TypeId) (fz:Nat×Nat):∀(vs:List Value) (i:Nat) (cur:Array Value) (w:World),w.heap[g]? = some (.cells cur t fz)→(∀o,o<cur.size→¬(fz.1≤o∧o<fz.2))→o+i+vs.length≤cur.size→(∀v∈vs,v.oneCell'=true) →
  (storeCells ⟨g,o,none⟩ vs i).run P w = .ok () (w.setRow g (cur.toList.take (o+i)++vs++cur.toList.drop (o+i+vs.length)).toArray)
 | [], i, cur, w, hg, _, _, _ => by
   simp only[storeCells,bh,bB,bq,bX,Array.toArray_toList]
   rw[setRow_self w g cur t fz hg]
   rfl
 | v :: rest, i, cur, w, hg, hz, hl, h1 => by
   have hi:o+i<cur.size:=by simp at hl; omega
   have dK:(⟨g,o,none⟩:Addr).add i=⟨g,o+i,none⟩:=by unfold Addr.add; split<;>simp_all
   have hcell:w.cell? ⟨g,o+i,none⟩=some cur[o+i]:=by simp[World.cell?,hg,hi]
   have sx:w.frozen? ⟨g,o+i,none⟩=false:=by
    have:=hz _ hi
    obtain⟨lo,ii⟩:=fz
    simp only at this
    simp only[World.frozen?,hg,Bool.and_eq_false_iff,cq]
    omega
   have dC:(store ((⟨g,o,none⟩:Addr).add i) v).run P w = .ok () (w.setRow g (cur.setIfInBounds (o+i) v)):=by
    rw[dK,run_store P w _ v _ (h1 v (by simp)),hcell]
    simp[sx,setCell_eq_setRow w g (o+i) cur t fz v hg]
   have ih:=Iv P g o t fz rest (i+1) (cur.setIfInBounds (o+i) v) (w.setRow g (cur.setIfInBounds (o+i) v)) (setRow_heap w g cur _ t _ hg) (by simpa using hz) (by simp at hl ⊢; omega) (λx hx=>h1 x (by simp[hx]))
   simp only[storeCells,Sem.run_bind,dC,Result.andThen_ok,ih,setRow_setRow]
   congr 3
   have e:=list_seg_step cur.toList (o+i) v rest (by simp at hl ⊢; omega)
   simpa[Array.toList_setIfInBounds,cm] using e
theorem Rh (hE:EnvOk E N) (nm:Names vs (wh vs ops)) (ho:ops[j]? = some o) (hf:FI N w G st a vs (wh vs ops)) {ts tx e:TypeId} {size:Nat} {z:List PV} {s x:Operand} {ps:PX}
  (cP:o.op = .call { callee := .builtin .append,args := #[s,x],argTypes := #[ts,tx] }) (ea:wJ vs o.dst≠.n) (eo:P.underlying ts=some (.slice e)) (hn:wI P e=some size) (hz:xE P e=some z)
  (jf:cx E vs ops s=some ps) {es xs:List PV} {st':St} (ec:tk st ps=some (.list true es,st')) (lC:w6 size es=true) (cO:es.length+xs.length≤9223372036854775807) (eF:(es.length+xs.length)*P.bytesOf e≤140737488355328)
  {news:List Value} (fx:ListR N w G.fix G.heap size news xs) (dV:Src P size tx (a.eval x) xs.length news w)
  (hk:wy N w G a st' (.list true (es++xs)) vs ops j o next):o.wp P a w next Q:=by
 obtain⟨i,d,hi,gf,fK,hd⟩:=yD hn
 obtain⟨i2,zv,ed,iG,_,jF,fW,_⟩:=BL (N:=N) (w:=w) (fix:=G.fix) (hp:=G.heap) hz
 have:i2=i:=by rw[hi] at ed; simpa using ed.symm
 subst this
 subst gf
 have gC:zv.cells.size=i2.size:=by have:=fW.1; simp at this; omega
 have gz:P.bytesOf e=i2.bytes:=by simp[Program.bytesOf,hi]
 rw[gz] at eF
 obtain⟨G1,dj,d7,iz,eT,dP,cW,fw,_,vR,_⟩:=EJ hE jf hf ec (xU (wJ vs o.dst) j)
 obtain⟨olds,pu,dW⟩:=LT cW lC
 have dA:Room w G1 (xU (wJ vs o.dst) j) (a.eval s) es:=fw
 have gS:∀v w',(Builtin.append_ #[ts,tx] o.type #[a.eval s,a.eval x]).run P w = .ok v w'→(execOp a.eval o).run P w = .ok (.value v) w':=by
  intro v w' hr
  simp[execOp,cP,resolve,invoke,builtin,hr]
 have pA:ListR N w G1.fix G1.heap i2.size news xs:=by rw[eT,dP]; exact fx
 have pB:ListR N w G1.fix G1.heap i2.size olds es:=by rw[eT,dP]; exact pu
 have mW:VR N w G1.fix G1.heap (a.eval s) (.list true es):=by rw[eT,dP]; exact cW
 have finish:∀(v:Value) (w':World) (G':GS),(Builtin.append_ #[ts,tx] o.type #[a.eval s,a.eval x]).run P w = .ok v w'→Ext w G1 w' G'→xa (λk=>k=xU (wJ vs o.dst) j) w G1 w' G' →
   (∀g b,G'.box g=some b→G1.box g=some b)→(∀b k,G'.ow b=some k→b<w'.heap.size)→(∀b o,G'.fix b o→b<w'.heap.size)→G'.heap=G1.heap→VR N w' G'.fix G'.heap v (.list true (es++xs))→Room w' G' (xU (wJ vs o.dst) j) v (es++xs) →
   o.wp P a w next Q:=by
  intro v w' G' hr cN cR sg how fG hh hv pC
  unfold Oper.wp
  rw[gS v w' hr]
  refine hk _ _ G' (dj.extDst nm (yY ho) ea cN cR ?_ how fG hh (SR.own hv pC)) (d7.trans cN) (yZ _ _ _)
  intro g b hb
  exact dj.gen g b (sg g b hb)
 by_cases jm:∃base cap,a.eval s = .slice base es.length cap∧cap<es.length+xs.length
 ·
  obtain⟨base,cap,hv,cX⟩:=jm
  have gT:(Builtin.firstCells i2.size es.length (.slice base es.length cap)).run P w.drew = .ok olds.toArray w.drew:=by
   rcases dW with⟨h1,h2,h3⟩|⟨ad,cap',h1,h2,h3⟩|⟨b,off,cap',h1,h2,h3⟩
   ·rw[hv] at h1; simp at h1
    obtain⟨rfl,_,rfl⟩:=h1
    subst h3
    exact run_firstCells_none w.drew _ _ _ _
   ·rw[hv] at h1; simp at h1
    obtain⟨rfl,_,rfl⟩:=h1
    subst h3
    rw[h2]
    exact run_firstCells_some w.drew _ _ _ _ _ [] (by simp) (by simp)
   ·rw[hv] at h1; simp at h1
    obtain⟨rfl,rfl⟩:=h1
    exact run_firstCells_some w.drew _ _ _ _ _ olds pu.len (λj u hu=>by rw[zO]; exact(h3 j u hu).1)
  have gQ:Builtin.nextslicecap (es.length+xs.length) cap*i2.bytes≤281474976710656:=by
   exact growslice_fits cX eF
  have cQ:=run_append_grow_src (P:=P) w ts tx o.type e i2 zv eo hi iG base es.length cap olds gT (a.eval x) xs.length news dV cX (by omega) gQ
  rw[← hv] at cQ
  have fM:∀o,¬G1.fix w.heap.size o:=λo h=>by have:=dj.fixlt _ _ h; omega
  have gx:=grownCap_ge w (es.length+xs.length) cap e
  let CS:Array Value:=(olds++news).toArray++Builtin.zeroCells zv.cells (grownCap w (es.length+xs.length) cap e - (es.length+xs.length))
  let G':GS:={ G1 with fix:=λb o=>G1.fix b o∨(b=w.heap.size∧o<(es.length+xs.length)*i2.size),ow:=λb=>if b=w.heap.size then some (xU (wJ vs o.dst) j) else G1.ow b }
  have hR:=pB.append pA fK
  have sy:CS.size=grownCap w (es.length+xs.length) cap e*i2.size:=by
   simp only[CS,bV,co,size_zeroCells,gC,hR.len,ap]
   rw[Nat.sub_mul]
   have:(es.length+xs.length)*i2.size≤grownCap w (es.length+xs.length) cap e*i2.size:=bo _ gx
   omega
  have cN:Ext w G1 (w.drew.alloc (.cells CS e)) G':=by
   refine⟨rfl,rfl,rfl,by simp,λb hb _=>yC (w:=w.drew) hb,λb o h=>⟨.inl h,C7 (w:=w.drew) (dj.fixlt _ _ h)⟩,?_,?_,λ_ _ h=>h,.same λk hk=>yC (w:=w.drew) hk,rfl⟩
   ·rintro b o (h|h)
    ·exact .inl h
    ·exact .inr (.inl (by omega))
   ·intro b hb
    simp only[G'] at hb
    split at hb
    ·exact .inl (by omega)
    ·exact .inr hb
  refine finish _ _ G' cQ cN ?_ (λ_ _ h=>h) ?_ ?_ rfl ?_ ?_
  ·refine⟨?_,λ_ _ h=>h⟩
   intro b k hb _
   have cS:=dj.owlt _ _ hb
   refine⟨?_,yC (w:=w.drew) cS,?_⟩
   ·simp only[G']; rw[af (by omega)]; exact hb
   ·rintro o (h|h)
    ·exact h
    ·omega
  ·intro b k hb
   simp only[G'] at hb
   split at hb
   ·simp; omega
   ·have:=dj.owlt _ _ hb; simp; omega
  ·rintro b o (h|h)
   ·have:=dj.fixlt _ _ h; simp; omega
   ·simp; omega
  ·have eb:(es++xs).length=es.length+xs.length:=by simp
   have fH:VR N (w.drew.alloc (.cells CS e)) G'.fix G'.heap (.slice (some ⟨w.heap.size,0,none⟩) (es++xs).length (grownCap w (es.length+xs.length) cap e)) (.list true (es++xs)) := ?_
   ·rw[eb] at fH; exact fH
   refine Iu (hR.mono cN.fix cN.heap cN.shape) (by rw[eb]; exact gx) ?_
   intro j' u' hu
   have cS:j'<(olds++news).length:=(ai.1 hu).1
   refine⟨?_,.inr ⟨rfl,by rw[hR.len,eb] at cS; omega⟩⟩
   rw[aM]
   have:=World.cell?_alloc_new w.drew CS e j'
   refine this.trans ?_
   simp only[CS]
   rw[bm (by simpa using cS)]
   simpa using hu
  ·refine .inr ⟨by simp[G'],i2.size,CS,e,hR.sz,.of (AV (w:=w.drew)),by rw[sy]; simp,by omega,?_⟩
   rintro o' eN (h|h)
   ·exact fM _ h
   ·simp at eN; omega
 ·
  have kh:∃base cap,a.eval s = .slice base es.length cap:=by
   rcases dW with⟨h1,h2,_⟩|⟨ad,cap,h1,h2,_⟩|⟨b,off,cap,h1,_⟩
   ·exact⟨none,0,by rw[h1,h2]; rfl⟩
   ·exact⟨some ad,cap,by rw[h1,h2]; rfl⟩
   ·exact⟨_,cap,h1⟩
  obtain⟨base,cap,hv⟩:=kh
  have ez:es.length+xs.length≤cap:=by
   rcases Nat.lt_or_ge cap (es.length+xs.length) with h|h
   ·exact absurd ⟨base,cap,hv,h⟩ jm
   ·exact h
  by_cases fV:xs=[]
  ·subst fV
   have iU:news=[]:=by have:=fx.len; simpa using this
   subst iU
   have cQ:(Builtin.append_ #[ts,tx] o.type #[a.eval s,a.eval x]).run P w = .ok (a.eval s) w:=by
    rw[hv]
    have sA:es.length≤cap:=by simpa using ez
    have jb:(Builtin.lenOf (a.eval x)).run P w = .ok 0 w:=by simpa using dV.len w
    have kw:(Builtin.firstCells i2.size 0 (a.eval x)).run P w = .ok #[] w:=by simpa using dV.cells
    rcases dV.kind with⟨e'',dh⟩|dh <;>
     cases base<;>simp[Builtin.append_,run_underlying eo,run_underlying dh,Go.sizeOf,typeInfo,hi,jb,sA,kw,storeCells]
   refine finish _ w G1 cQ (Ext.refl _ _) ⟨λb k h _=>⟨h,rfl,λ_ h=>h⟩,λ_ _ h=>h⟩ (λ_ _ h=>h) dj.owlt dj.fixlt rfl (by simpa using mW) (by simpa using dA)
  ·
   have tN:0<xs.length:=b7.2 fV
   rcases dW with⟨h1,h2,_⟩|⟨ad,cap',h1,h2,_⟩|⟨b,off,cap',h1,h2,h3⟩
   ·rw[hv] at h1; simp at h1; omega
   ·have sB:base=some ad∧cap=cap':=by rw[hv,h2] at h1; simpa using h1
    obtain⟨rfl,rfl⟩:=sB
    rw[hv] at dA
    rw[h2] at dA ez
    rcases dA with dA|⟨_,_,_,_,_,_,_,dE,_⟩
    ·simp at ez dA; omega
    ·simp at dE
   ·have sB:base=some ⟨b,off,none⟩∧cap=cap':=by rw[hv] at h1; simpa using h1
    obtain⟨rfl,rfl⟩:=sB
    rw[hv] at dA
    rcases dA with dA|⟨how,sz,cur,T,cV,⟨fz,d8,mX⟩,gQ,dE,dq⟩
    ·omega
    ·have sC:sz=i2.size:=by
      cases es with
      | nil=>simp at dE
      | cons y ys=>have:=cV y (by simp); have:=pu.sz y (by simp); omega
     subst sC
     simp only at how d8 gQ dq mX
     have sD:off+es.length*i2.size+news.length≤cur.size:=by
      rw[fx.len]
      have:(es.length+xs.length)*i2.size≤cap*i2.size:=bo _ ez
      rw[aQ] at this; omega
     let NR:Array Value:=(cur.toList.take (off+es.length*i2.size)++news++cur.toList.drop (off+es.length*i2.size+news.length)).toArray
     have cQ:(Builtin.append_ #[ts,tx] o.type #[a.eval s,a.eval x]).run P w = .ok (.slice (some ⟨b,off,none⟩) (es.length+xs.length) cap) (w.setRow b NR):=by
      have dC:=Iv P b (off+es.length*i2.size) T fz news 0 cur w d8 mX (by simpa using sD) (fx.one fK)
      simp only[bq] at dC
      rw[hv]
      rcases dV.kind with⟨e'',dh⟩|dh <;>
       simp[Builtin.append_,run_underlying eo,run_underlying dh,Go.sizeOf,typeInfo,hi,dV.len,ez,dV.cells,zO,dC,NR]
     have eE:b<w.heap.size:=dj.owlt _ _ how
     have cY:∀x,x≠b→(w.setRow b NR).heap[x]? = w.heap[x]? := λx hx=>setRow_other w b x _ hx
     let G':GS:={ G1 with fix:=λb' o=>G1.fix b' o∨(b'=b∧off+es.length*i2.size≤o∧o<off+(es.length+xs.length)*i2.size) }
     have jG:NR.size=cur.size:=by simp only[NR,co,ap,bk,cg,bb]; omega
     have rG:∀k,k<off+es.length*i2.size→NR[k]? = cur[k]? := by
      intro k hk
      simp only[NR,bN,aJ]
      rw[am (by simp; omega),aW,ah hk]
      simp
     have sE:∀k,k<news.length→NR[off+es.length*i2.size+k]? = news[k]? := by
      intro k hk
      have hl:(cur.toList.take (off+es.length*i2.size)).length=off+es.length*i2.size:=by simp; omega
      simp only[NR,bN,aJ]
      rw[ar (by omega),hl,am (by omega)]
      congr 1; omega
     have kA:∀k,(w.setRow b NR).cell? ⟨b,k,none⟩=NR[k]? := λk=>cell_setRow_same w b k cur NR T fz d8
     have cN:Ext w G1 (w.setRow b NR) G':=by
      refine⟨rfl,rfl,rfl,by simp[World.setRow],?_,?_,?_,λ_ h => .inr h,λ_ _ h=>h,Gp d8 _ jG,rfl⟩
      ·intro y _ jv
       exact cY y (by rintro rfl; rw[how] at jv; simp at jv)
      ·intro y o' fG
       refine⟨.inl fG,?_⟩
       by_cases jn:y=b
       ·subst jn
        have cS:o'<off+es.length*i2.size:=by
         rcases Nat.lt_or_ge o' (off+es.length*i2.size) with h|h
         ·exact h
         ·exact absurd fG (dq o' h)
        rw[kA,rG o' cS]
        simp[World.cell?,d8]
       ·simp only[World.cell?,cY y jn]
      ·rintro y o' (h|h)
       ·exact .inl h
       ·exact .inr (.inr (by rw[h.1,how]; simp))
     refine finish _ _ G' cQ cN ?_ (λ_ _ h=>h) (λy k hy=>by simpa[World.setRow] using dj.owlt y k hy) ?_ rfl ?_ ?_
     ·refine⟨?_,λ_ _ h=>h⟩
      intro y k hy gH
      have jn:y≠b:=by rintro rfl; rw[how] at hy; simp at hy; exact gH hy.symm
      refine⟨hy,cY y jn,?_⟩
      rintro o' (h|h)
      ·exact h
      ·exact absurd h.1 jn
     ·rintro y o' (h|h)
      ·simpa[World.setRow] using dj.fixlt _ _ h
      ·simp[World.setRow]; omega
     ·have eb:(es++xs).length=es.length+xs.length:=by simp
      rw[← eb]
      refine Iu ((pB.append pA fK).mono cN.fix cN.heap cN.shape) (by rw[eb]; exact ez) ?_
      intro k u' hu
      by_cases fX:k<olds.length
      ·rw[am fX] at hu
       obtain⟨c1,c2⟩:=h3 k u' hu
       have:=cN.fix b (off+k) (by rw[eT]; exact c2)
       exact⟨this.2.trans c1,this.1⟩
      ·rw[ar (by omega)] at hu
       have cS:k - olds.length<news.length:=(ai.1 hu).1
       have he:off+k=off+es.length*i2.size+(k - olds.length):=by have:=pu.len; omega
       refine⟨?_,.inr ⟨rfl,?_,?_⟩⟩
       ·rw[kA,he,sE _ cS]; exact hu
       ·rw[he]; omega
       ·rw[he,aQ]; have:=fx.len; omega
     ·refine .inr ⟨how,i2.size,NR,T,?_,⟨fz,setRow_heap w b cur NR T fz d8,λo ho=>mX o (by rw[← jG]; exact ho)⟩,?_,by omega,?_⟩
      ·intro y hy
       rcases ay.1 hy with hy|hy
       ·exact pu.sz y hy
       ·exact fx.sz y hy
      ·simp only[NR,co,ap,bk,cg,bb]; omega
      ·rintro o' eN (h|h)
       ·refine dq o' ?_ h
        simp only[ap,aQ] at eN
        omega
       ·simp only[ap,aQ] at eN
        have:=h.2.2
        rw[aQ] at this
        omega
theorem b7J (hE:EnvOk E N) (nm:Names vs (wh vs ops)) (ho:ops[j]? = some o) (hf:FI N w G st a vs (wh vs ops)) {ts tx e e':TypeId} {size:Nat} {z:List PV} {s x:Operand} {ps px:PX}
  (cP:o.op = .call { callee := .builtin .append,args := #[s,x],argTypes := #[ts,tx] }) (ea:wJ vs o.dst≠.n) (eo:P.underlying ts=some (.slice e)) (gq:P.underlying tx=some (.slice e')) (hn:wI P e=some size) (hz:xE P e=some z)
  (jf:cx E vs ops s=some ps) (hx:cx E vs ops x=some px) {cf:wm} (hs:opv cf (.append size (P.bytesOf e) ps px) st=some (u,st1)) (hk:wy N w G a st1 u vs ops j o next):o.wp P a w next Q:=by
 simp only[opv] at hs
 split at hs
 ·rename_i xs es st' pD ec
  split at hs
  ·rename_i cT
   obtain⟨lC,gN,kB⟩:=cT
   have cO:es.length+xs.length≤9223372036854775807:=by rcases kB with⟨h,_⟩|⟨h,_⟩<;>omega
   have eF:(es.length+xs.length)*P.bytesOf e≤140737488355328:=by
    rcases kB with⟨h,h'⟩|⟨_,h⟩
    ·exact aR (Nat.mul_le_mul h h') (by decide)
    ·exact h
   simp only[aa,ac] at hs
   obtain⟨rfl,rfl⟩:=hs
   simp only[ae] at pD
   obtain⟨px0,ji,kC⟩:=pD
   have gD:=(wL hE hx hf ji).1.row kC
   obtain⟨news,fx,pE⟩:=LT gD gN
   obtain⟨_,_,_,_,fK,_⟩:=yD hn
   have dV:Src P size tx (a.eval x) xs.length news w:=by
    rcases pE with⟨h1,h2,h3⟩|⟨ad,cap,h1,h2,h3⟩|⟨b,off,cap,h1,h2,h3⟩
    ·rw[h1,h2,h3]; exact Src.ofNil w gq 0
    ·rw[h1,h2,h3]; exact Src.ofSlice w gq ad 0 cap [] (by simp) (by simp) (by simp)
    ·rw[h1]
     exact Src.ofSlice w gq ⟨b,off,none⟩ xs.length cap news fx.len (λj u hu=>by rw[zO]; exact(h3 j u hu).1) (fx.one fK)
   exact Rh hE nm ho hf cP ea eo hn hz jf ec lC cO eF fx dV hk
  ·simp at hs
 ·simp at hs
theorem Ri (fix:Nat→Nat→Prop) (hp:Nat→Option Nat) (s:ByteArray):ListR N w fix hp 1 (byteCells s) (AI s.data.toList):=by
 refine⟨by rw[byteCells_length,Nat.mul_one]; simp only[AI,aA,bb]; rfl,?_,?_,?_⟩
 ·intro e he
  obtain⟨b,_,rfl⟩:=bc.1 he
  rfl
 ·intro e he x hx
  obtain⟨b,_,rfl⟩:=bc.1 he
  simp only[PV.cells,bF] at hx
  subst hx; rfl
 ·intro i e he k c x hc hx
  simp only[AI,az,ab] at he
  obtain⟨b,hb,rfl⟩:=he
  cases k with
  | zero =>
    simp only[PV.cells,bZ,aa] at hx
    subst hx
    simp only[byteCells,Nat.mul_one,bq,az,ab] at hc
    obtain⟨b',da,rfl⟩:=hc
    rw[hb] at da; cases da
    exact .int _ _
  | succ k=>simp[PV.cells] at hx
theorem b84 (s:List UInt8):(AI s).length=s.length:=by simp[AI]
theorem b7L (hE:EnvOk E N) (nm:Names vs (wh vs ops)) (ho:ops[j]? = some o) (hf:FI N w G st a vs (wh vs ops)) {ts tx e:TypeId} {z:List PV} {s x:Operand} {ps px:PX}
  (cP:o.op = .call { callee := .builtin .append,args := #[s,x],argTypes := #[ts,tx] }) (ea:wJ vs o.dst≠.n) (eo:P.underlying ts=some (.slice e)) (gq:P.underlying tx=some .string) (hn:wI P e=some 1) (hz:xE P e=some z) (fe:P.bytesOf e=1)
  (jf:cx E vs ops s=some ps) (hx:cx E vs ops x=some px) {cf:wm} (hs:opv cf (.appstr ps px) st=some (u,st1)) (hk:wy N w G a st1 u vs ops j o next):o.wp P a w next Q:=by
 simp only[opv] at hs
 split at hs
 ·rename_i xs es st' ji ec
  split at hs
  ·rename_i cT
   obtain⟨lC,cO⟩:=cT
   simp only[aa,ac] at hs
   obtain⟨rfl,rfl⟩:=hs
   have gD:=(wL hE hx hf ji).1
   generalize hv:a.eval x=v at gD
   cases gD with
   | str s0 =>
     have hl:(AI s0.data.toList).length=s0.size:=by simp only[AI,aA,bb]; rfl
     have eu:s0.data.toList.length=s0.size:=bb
     refine Rh (xs:=AI s0.data.toList) (news:=byteCells s0) hE nm ho hf cP ea eo hn hz jf ec lC (by omega) (by rw[fe]; omega) (Ri _ _ _) ?_ hk
     rw[hv,hl]
     exact Src.ofString w gq s0
  ·simp at hs
 ·simp at hs
theorem b53 {fix:Nat→Nat→Prop} {hp:Nat→Option Nat} {v:Value} {es:List PV} {bs:List UInt8} (h:VR N w fix hp v (.list false es)) (hb:bytesOf es=some bs):
  (∃l c,v = .slice none l c∧bs=[])∨∃ad c,v = .slice (some ad) bs.length c∧((bs=[])∨(ad.spot=none∧∀i,i<bs.length→w.cell? ⟨ad.block,ad.off+i,none⟩=some (.int .u8 ((bs.map λb=>(b.toNat:Int)).getD i 0)))):=by
 have key:∀{es:List PV} {bs:List UInt8},bytesOf es=some bs→es.length=bs.length∧∀(i:Nat) (e:PV),es[i]? = some e→e = .int .u8 ((bs.map λb=>(b.toNat:Int)).getD i 0):=by
  intro es
  induction es with
  | nil=>intro bs h; simp[bytesOf] at h; subst h; simp
  | cons x xs ih =>
    intro bs h
    unfold bytesOf at h
    split at h
    ·rename_i h0; simp at h0
    ·rename_i n r h0
     simp only[bw] at h0
     obtain⟨rfl,rfl⟩:=h0
     split at h
     ·rename_i hn
      simp only[ab] at h
      obtain⟨bs',h1,rfl⟩:=h
      obtain⟨k1,k2⟩:=ih h1
      refine⟨by simp[k1],?_⟩
      intro i e he
      cases i with
      | zero =>
        simp at he; subst he
        have:(UInt8.ofNat n.toNat).toNat=n.toNat:=by simp[UInt8.toNat_ofNat']; omega
        simp[this]; omega
      | succ i =>
        have:=k2 i e (by simpa using he)
        simpa using this
     ·simp at h
    ·simp at h
 obtain⟨k1,k2⟩:=key hb
 cases h with
 | nils=>simp at k1; exact .inl ⟨_,_,rfl,List.eq_nil_of_length_eq_zero k1.symm⟩
 | void _ ad cap=>simp at k1; refine .inr ⟨ad,cap,?_,.inl (List.eq_nil_of_length_eq_zero k1.symm)⟩; rw[← k1]
 | list _ b off len cap sz _ cv cO cX cV cU hcell cW =>
   refine .inr ⟨⟨b,off,none⟩,cap,by rw[← k1,cO],.inr ⟨rfl,?_⟩⟩
   intro i hi
   have cS:i<es.length:=by omega
   have he:=al cS
   have eO:=k2 i _ he
   have ei:sz=1:=by rw[← cV _ (aj cS),eO]; rfl
   subst ei
   have h1:=cW i _ he 0 (es[i]) (by rw[eO]; rfl)
   rw[eO] at h1
   have h2:=(hcell i (by omega)).1
   rw[Nat.mul_one,bq] at h1
   generalize hg:cv i=c at h1 h2
   cases h1
   exact h2
theorem b1x (bs:List UInt8):strOfNums (bs.map λb=>(b.toNat:Int))=⟨bs.toArray⟩:=by
 have:=strOfNums_data (bs.map λb=>(b.toNat:Int))
 have h2:(strOfNums (bs.map λb=>(b.toNat:Int))).data.toList=bs:=by
  rw[this,List.map_map]
  conv=>rhs; rw[← List.map_id bs]
  apply List.map_congr_left
  intro b _
  simp
 generalize strOfNums (bs.map λb=>(b.toNat:Int))=x at h2
 cases x with
 | mk d=>simp at h2; subst h2; simp
theorem c21 (hE:EnvOk E N) (nm:Names vs (wh vs ops)) (ho:ops[j]? = some o) (hf:FI N w G st a vs (wh vs ops)) {src dst e:TypeId} {x:Operand} {px:PX} (cP:o.op = .convert src dst x)
  (ei:P.underlying src=some (.slice e)) (he:P.underlying e=some (.int .u8)) (hd:P.underlying dst=some .string) (hx:cx E vs ops x=some px) {cf:wm} (hs:opv cf (.b2s px) st=some (u,st1)) (hk:wy N w G a st1 u vs ops j o next):o.wp P a w next Q:=by
 simp only[opv] at hs
 split at hs
 ·rename_i es ji
  simp only[ab,ac] at hs
  obtain⟨bs,so,rfl,rfl⟩:=hs
  simp only[ae] at ji
  obtain⟨p0,p8,kC⟩:=ji
  have hv:=(wL hE hx hf p8).1.row kC
  have cQ:(convert src dst (a.eval x)).run P w = .ok (.string ⟨bs.toArray⟩) w:=by
   rcases b53 hv so with⟨l,c,h1,rfl⟩|⟨ad,c,h1,h2⟩
   ·rw[h1,run_convert_bytes_nil (w:=w) src e ei he l c dst hd]; rfl
   ·rw[h1]
    rcases h2 with rfl|⟨gO,h2⟩
    ·rw[run_convert_bytes_string w src dst e _ _ _ ei he hd]
     have:=run_bytesToString (P:=P) w ad 0 c [] (by simpa using run_loadCells_list (P:=P) w ad [] (by simp))
     exact this
    ·obtain⟨b,off,sp⟩:=ad
     simp only at gO; subst gO
     have:=run_convert_bytes_arg (w:=w) src e ei he b off bs.length c (bs.map λb=>(b.toNat:Int)) (by simp) h2 dst hd
     rw[this,b1x]
  refine wM (v := .string ⟨bs.toArray⟩) nm ho hf (by simp[execOp,cP,cQ]) (SR.of_pure ?_ rfl) hk
  have:=VR.str (N:=N) (w:=w) (fix:=G.fix) (hp:=G.heap) ⟨bs.toArray⟩
  simpa using this
 ·simp at hs
theorem b4B (hE:EnvOk E N) (nm:Names vs (wh vs ops)) (ho:ops[j]? = some o) (hf:FI N w G st a vs (wh vs ops)) {t e:TypeId} {n:Nat} {x:Operand} {px:PX} (cP:o.op = .slice t x none none none)
  (hu:P.underlying t=some (.array n e)) (hn:wI P e=some 1) (hx:cx E vs ops x=some px) {cf:wm} (hs:opv cf (.sliceLoc n px) st=some (u,st1)) (hk:wy N w G a st1 u vs ops j o next):o.wp P a w next Q:=by
 simp only[opv] at hs
 split at hs
 ·rename_i i g cs fB
  split at hs
  ·rename_i cO
   simp only[aa,ac] at hs
   obtain⟨rfl,rfl⟩:=hs
   have qe:st.vars[i]? = some (.loc g cs):=fB
   have mY:=BK hE hx hf fB
   obtain⟨b0,i0,kJ,hv,ij,_⟩:=mY
   obtain⟨tt,nI,kL,kU,ip,cv,T,hh,hl,hc⟩:=It hf qe ij
   obtain⟨hR,hcell⟩:=K0 hh hl hc
   let G':GS:={ G with fix:=λb o=>G.fix b o∨b=b0 }
   have cN:Ext w G w G':=by
    refine⟨rfl,rfl,rfl,ao _,λ_ _ _=>rfl,λ_ _ h=>⟨.inl h,rfl⟩,?_,λ_ h => .inr h,λ_ _ h=>h,ShapeLe.refl w,rfl⟩
    rintro b o (h|h)
    ·exact .inl h
    ·exact .inr (.inr (by rw[h,kU]; simp))
   have cR:xa (λk=>k = .var i) w G w G':=by
    refine⟨?_,λ_ _ h=>h⟩
    intro b k hb gH
    refine⟨hb,rfl,?_⟩
    rintro o (h|h)
    ·exact h
    ·subst h; rw[kU] at hb; simp at hb; exact absurd hb.symm gH
   have tV:=hf.owlt _ _ kU
   have dj:FI N w G' { st with vars:=st.vars.set i .dead } a vs (wh vs ops):=by
    refine⟨by simp[hf.len],?_,λj' t' u' h1 h2=>(hf.loc j' t' u' h1 h2).keep cN cR (by simp) (by simp),hf.tv,hf.tl,hf.defers,hf.gen,hf.owlt,?_,hf.heap.keep cN cR (by rintro k hk rfl; simp[Key.isH] at hk),hf.hdom⟩
    ·intro i' t' u' h1 h2
     simp only[aO] at h2
     split at h2
     ·split at h2
      ·simp at h2; subst h2; trivial
      ·simp at h2
     ·rename_i hi
      exact(hf.var i' t' u' h1 h2).keep cN cR (by simp; omega) (by simp)
    ·rintro b o (h|h)
     ·exact hf.fixlt _ _ h
     ·omega
   have cQ:(execOp a.eval o).run P w = .ok (.value (.slice (some ⟨b0,0,none⟩) n n)) w:=by
    have hz:(if n=0 then(⟨b0,0,none⟩:Addr) else(⟨b0,0,none⟩:Addr).add (0*1))=⟨b0,0,none⟩:=by simp[zO]
    simp[execOp,cP,hv,Instr.sliceAt,run_underlying hu,Instr.sureAddr,Instr.sliceBounds,zu hn,hz]
   unfold Oper.wp
   rw[cQ]
   refine hk _ _ G' (dj.put nm (yY ho) ⟨?_,.inl rfl⟩) cN (yZ _ _ _)
   have fS:∀x∈cs,x.cells=[x]:=by
    intro x hx
    have:=hR.2.1 x hx
    cases x<;>first|rfl|simp[PV.flat] at this
   rw[← cO]
   refine Iu (size:=1) (news:=cv.toList) ⟨?_,?_,?_,?_⟩ (ao _) ?_
   ·simpa using hl
   ·intro e he; rw[fS e he]; rfl
   ·intro e he y hy; rw[fS e he] at hy; simp at hy; subst hy; exact hR.2.1 _ he
   ·intro k e he m c y eL hy
    rw[fS e (av he)] at hy
    have hm:m=0:=by
     cases m with
     | zero=>rfl
     | succ m=>simp at hy
    subst hm
    simp at hy; subst hy
    exact(hR.2.2 k c _ (by simpa using eL) he).ext cN
   ·intro k v dS
    exact⟨by rw[aM]; exact hcell k v dS,.inr rfl⟩
  ·simp at hs
 ·simp at hs
end
section
variable {E:Env} {N:Nm} {w:World} {G:GS} {st:St} {a:Act} {vs:List Tmp} {ops:List Oper} {P:Program}
variable {o:Oper} {j:Nat} {next:Act→World→Prop} {Q:Exit→Act→World→Prop} {u:PV} {st1:St}
def GS.more (G:GS) (b n:Nat):GS:={ G with ow:=λx=>if x=b then some (.hobj n) else G.ow x,heap:=λm=>if m=n then some b else G.heap m }
theorem DO (nm:Names vs (wh vs ops)) (ho:ops[j]? = some o) (hf:FI N w G st a vs (wh vs ops)) {ob:PObj} {mob:Obj} {v:Value} {u:PV}
  (cQ:(execOp a.eval o).run P w = .ok (.value v) (w.alloc mob)) (hv:∀G',G'=G.more w.heap.size st.heap.length→SR N (w.alloc mob) G' (xU (wJ vs o.dst) j) v u)
  (hR:∀G',G'=G.more w.heap.size st.heap.length→Ext w G (w.alloc mob) G'→ObjR N (w.alloc mob) G' st.heap.length w.heap.size ob)
  (hk:wy N w G a { st with heap:=st.heap++[ob] } u vs ops j o next):o.wp P a w next Q:=by
 unfold Oper.wp
 rw[cQ]
 let G':GS:=G.more w.heap.size st.heap.length
 have cN:Ext w G (w.alloc mob) G':=by
  refine⟨rfl,rfl,rfl,by simp,λb hb _=>yC hb,λb o h=>⟨h,C7 (hf.fixlt _ _ h)⟩,λ_ _ h => .inl h,?_,?_,.same λk hk=>yC hk,rfl⟩
  ·intro b hb
   by_cases cS:b<w.heap.size
   ·refine .inr ?_
    simp only[G',GS.more] at hb
    rw[af (by omega)] at hb
    exact hb
   ·exact .inl (by omega)
  ·intro n b h
   have:=hf.hdom _ _ h
   simp only[G',GS.more]
   rw[af (by omega)]; exact h
 have cR:xa (λ_=>False) w G (w.alloc mob) G':=by
  refine⟨?_,λ_ _ h=>h⟩
  intro b k hb _
  have cS:=hf.owlt _ _ hb
  refine⟨?_,yC cS,λ_ h=>h⟩
  simp only[G',GS.more]
  rw[af (by omega)]; exact hb
 have dj:FI N (w.alloc mob) G' { st with heap:=st.heap++[ob] } a vs (wh vs ops):=by
  refine⟨hf.len,λi t u h1 h2=>(hf.var i t u h1 h2).keep cN cR (λh=>h) (λ_ _ _ h=>h),λj t u h1 h2=>(hf.loc j t u h1 h2).keep cN cR (λh=>h) (λ_ _ _ h=>h),hf.tv,hf.tl,hf.defers,hf.gen,?_,?_,?_,?_⟩
  ·intro b k hb
   simp only[G',GS.more] at hb
   split at hb
   ·simp; omega
   ·have:=hf.owlt _ _ hb; simp; omega
  ·intro b o h; have:=hf.fixlt _ _ h; simp; omega
  ·exact hf.heap.push cN cR (λ_ _ _=>⟨λh=>h,λh=>h⟩) (.inr ⟨w.heap.size,by simp[G',GS.more],by simp[G',GS.more],hR G' rfl cN⟩)
  ·intro n b h
   simp only[G',GS.more] at h
   simp only[ap,cI]
   split at h
   ·omega
   ·have:=hf.hdom _ _ h; omega
 exact hk _ _ G' (dj.put nm (yY ho) (hv _ rfl)) cN (yZ _ _ _)
theorem Iz (hf:FI N w G st a vs (wh vs ops)) {cs:Array Value} {ps:List PV} {T:TypeId}
  (hR:∀(k:Nat) (c:Value) (x:PV),cs[k]? = some c→ps[k]? = some x→VR N w G.fix G.heap c x∧x.flat=true∧(∀es,x = .list true es→c = .slice none 0 0)) (hl:cs.size=ps.length)
  {G':GS} (hG:G'=G.more w.heap.size st.heap.length) (cN:Ext w G (w.alloc (.cells cs T)) G'):ObjR N (w.alloc (.cells cs T)) G' st.heap.length w.heap.size (.cells ps):=by
 subst hG
 have fM:∀o,¬G.fix w.heap.size o:=λo h=>by have:=hf.fixlt _ _ h; omega
 refine⟨fM,cs,T,AV,Nat.le_of_eq hl.symm,?_⟩
 intro k c x hc hx
 obtain⟨h1,h2,h3⟩:=hR k c x hc hx
 refine⟨h1.ext cN,h2,?_⟩
 split
 ·rename_i es
  have:=h3 es rfl
  subst this
  trivial
 ·trivial
theorem b7R (nm:Names vs (wh vs ops)) (ho:ops[j]? = some o) (hf:FI N w G st a vs (wh vs ops)) {t:TypeId} {z:List PV} (cP:o.op = .alloc t) (hz:xE P t=some z) {cf:wm}
  (hs:wi cf (.newobj z) st=some (u,st1)) (hk:wy N w G a st1 u vs ops j o next):o.wp P a w next Q:=by
 simp only[wi,aa,ac] at hs
 obtain⟨rfl,rfl⟩:=hs
 obtain⟨ti,zv,h1,h2,h3,h4,h5,_⟩:=BL (N:=N) (w:=w) (fix:=G.fix) (hp:=G.heap) hz
 refine DO (mob := .cells zv.cells t) (v := .pointer (some ⟨w.heap.size,0,none⟩)) nm ho hf ?_ ?_ (λG' hG cN=>Iz hf ?_ ?_ hG cN) hk
 ·simp[execOp,cP,Instr.alloc,zeroValue,typeInfo,h1,h2,newVar,newRow]
 ·rintro G' rfl
  exact .ptr _ _ w.heap.size (by simp[GS.more])
 ·intro k c x hc hx
  refine⟨h5.2.2 k c x (by simpa using hc) hx,h5.2.1 x (av hx),?_⟩
  rintro es rfl
  unfold xE at hz
  simp only[h1,h2,ae] at hz
  obtain⟨cs',dW,hz⟩:=hz
  split at hz
  ·simp at hz; subst hz
   exact EG dW k c es (by simpa using hc) hx
  ·simp at hz
 ·have:=h5.1; simpa using this
theorem b7S (hE:EnvOk E N) (nm:Names vs (wh vs ops)) (ho:ops[j]? = some o) (hf:FI N w G st a vs (wh vs ops)) {t:TypeId} {n:Nat} {x:Operand} {px:PX} (cP:o.op = .box t x) (hn:wI P t=some n) (hx:cx E vs ops x=some px)
  {cf:wm} (hs:wi cf (.boxobj n px) st=some (u,st1)) (hk:wy N w G a st1 u vs ops j o next):o.wp P a w next Q:=by
 simp only[wi] at hs
 split at hs
 ·rename_i p hp
  split at hs
  ·rename_i hl
   simp only[aa,ac] at hs
   obtain⟨rfl,rfl⟩:=hs
   obtain⟨_,_,_,_,eI,_⟩:=yD hn
   have hv:=(wL hE hx hf hp).1
   have dp:=(CellsR.of_cells hv (by intro e; rw[e] at hl; simp at hl; omega))
   refine DO (mob := .cells (a.eval x).cells t) (v := .pointer (some ⟨w.heap.size,0,none⟩)) nm ho hf ?_ ?_ (λG' hG cN=>Iz hf ?_ ?_ hG cN) hk
   ·simp[execOp,cP,Instr.box,newVar,newRow]
   ·rintro G' rfl
    exact .ptr _ _ w.heap.size (by simp[GS.more])
   ·intro k c y hc hy
    refine⟨dp.2.2 k c y (by simpa using hc) hy,dp.2.1 y (av hy),?_⟩
    rintro es rfl
    have fQ:∀es,p≠.list true es:=by
     rintro es rfl
     unfold rd at hp
     cases h1:raw st px with
     | none=>rw[h1] at hp; simp at hp
     | some q=>rw[h1] at hp; cases q<;>simp[cp] at hp
    generalize a.eval x=v at hv hc
    cases hv with
    | agg cs ps cO cU ej hcell=>exact ej k c es hc hy
    | _ =>
      exfalso
      cases k with
      | succ k=>simp[PV.cells] at hy
      | zero =>
        simp[PV.cells] at hy
        try (obtain⟨rfl,rfl⟩:=hy; exact fQ _ rfl)
        try (subst hy; exact fQ _ rfl)
   ·have:=dp.1; simpa using this
  ·simp at hs
 ·simp at hs
theorem b9e (nm:Names vs (wh vs ops)) (ho:ops[j]? = some o) (hf:FI N w G st a vs (wh vs ops)) {t:TypeId} (cP:o.op = .makeMap t none) {cf:wm}
  (hs:wi cf .mkmap st=some (u,st1)) (hk:wy N w G a st1 u vs ops j o next):o.wp P a w next Q:=by
 simp only[wi,aa,ac] at hs
 obtain⟨rfl,rfl⟩:=hs
 refine DO (mob := .map #[] 0) (v := .map (some w.heap.size)) nm ho hf ?_ ?_ ?_ hk
 ·simp[execOp,cP,Instr.makeMap]
 ·rintro G' rfl
  exact .map _ w.heap.size (by simp[GS.more])
 ·rintro G' rfl cN
  exact⟨#[],0,AV,rfl,by simp,by simp,by simp⟩
theorem DN (hf:FI N w G st a vs (wh vs ops)) {n b:Nat} {cs:List PV} (hg:wR st n=some cs) (hb:G.heap n=some b):
  G.ow b=some (.hobj n)∧(∀o,¬G.fix b o)∧∃cv T,w.heap[b]? = some (.cells cv T (0,0))∧cs.length≤cv.size∧∀(k:Nat) (c:Value) (x:PV),cv[k]? = some c→cs[k]? = some x→CR N w G (.hcell n k) c x:=by
 unfold wR at hg
 split at hg
 ·rename_i cs' hn
  simp at hg; subst hg
  rcases hf.heap.1 n _ hn with e|⟨b',h1,h2,h3,h4⟩
  ·simp at e
  have:b'=b:=by rw[hb] at h1; simpa using h1.symm
  subst this
  exact⟨h2,h3,h4⟩
 ·simp at hg
theorem K1 {b n:Nat} {cv:Array Value} {T:TypeId} {cs:List PV} (hh:w.heap[b]? = some (.cells cv T (0,0))) (hl:cs.length≤cv.size)
  (hc:∀(k:Nat) (c:Value) (x:PV),cv[k]? = some c→cs[k]? = some x→CR N w G (.hcell n k) c x):
  CellsR N w G.fix G.heap (cv.toList.take cs.length) cs∧∀(k:Nat) (v:Value),(cv.toList.take cs.length)[k]? = some v→w.cell? ⟨b,k,none⟩=some v:=by
 have get:∀(k:Nat) (v:Value),(cv.toList.take cs.length)[k]? = some v→cv[k]? = some v:=by
  intro k v hv
  rw[aW] at hv
  split at hv
  ·simpa using hv
  ·simp at hv
 refine⟨⟨by simp; omega,?_,λi c x h1 h2=>(hc i c x (get i c h1) h2).1⟩,?_⟩
 ·intro x hx
  obtain⟨i,hi⟩:=bi.1 hx
  have cS:i<cv.size:=by have:=(ai.1 hi).1; omega
  exact(hc i cv[i] x (by simp[cS]) hi).2.1
 ·intro k v hv
  simp[World.cell?,hh,get k v hv]
theorem Gq (hE:EnvOk E N) {x:Operand} {px:PX} {n off:Nat} (hc:cx E vs ops x=some px) (hf:FI N w G st a vs (wh vs ops)) (hr:addr st px=some (.ptr n off)):
  ∃b,a.eval x = .pointer (some ⟨b,off,none⟩)∧G.heap n=some b:=by
 rcases Bn hE hc hf hr with⟨_,_,_,_,h,_⟩|⟨h,_⟩
 ·simp at h
 ·generalize a.eval x=v at h
  cases h with
  | ptr _ _ b hb=>exact⟨b,rfl,hb⟩
theorem Rp (hE:EnvOk E N) (nm:Names vs (wh vs ops)) (ho:ops[j]? = some o) (hf:FI N w G st a vs (wh vs ops)) {t:TypeId} {n:Nat} {x:Operand} {px:PX} {tk:Bool} (cP:o.op = .load t x) (hn:wI P t=some n)
  (hx:cx E vs ops x=some px) {cf:wm} (hs:wi cf (.load n (wW P t) px tk) st=some (u,st1)) (hk:wy N w G a st1 u vs ops j o next):o.wp P a w next Q:=by
 have plain:∀r,(Instr.loadAt t (a.eval x)).run P w = .ok r w→(execOp a.eval o).run P w = .ok (.value r) w:=by
  intro r hr
  simp[execOp,cP,hr]
 have eI:n≠0:=by obtain⟨_,_,_,_,h,_⟩:=yD hn; exact h
 simp only[wi] at hs
 split at hs
 ·rename_i cs ha
  simp only[ab,ac] at hs
  obtain⟨r,hr,rfl,rfl⟩:=hs
  rcases Bn hE hx hf ha with⟨_,_,_,_,h,_⟩|⟨h,_⟩
  ·simp at h
  ·obtain⟨r',h1,h2,h3⟩:=LN (P:=P) hn h hr
   exact wM nm ho hf (plain _ h1) (SR.of_pure h2 h3) hk
 ·rename_i m off ha
  obtain⟨b,hv,hb⟩:=Gq hE hx hf ha
  simp only[ae] at hs
  obtain⟨cs,hg,hs⟩:=hs
  obtain⟨ep,gj,cv,T,hh,hl,hc⟩:=DN hf hg hb
  split at hs
  ·rename_i es ec hcell
   simp only[aa,ac] at hs
   obtain⟨rfl,rfl⟩:=hs
   simp only[ak,bC] at ec
   have cS:off<cv.size:=by have:=(ai.1 hcell).1; omega
   obtain⟨cW,_,dA⟩:=hc off cv[off] _ (by simp[cS]) hcell
   obtain⟨G',hG,fv⟩:=Room.give (key':=xU (wJ vs o.dst) j) dA
   have ib:G'.box=G.box∧G'.fix=G.fix∧G'.heap=G.heap:=by
    rcases hG with rfl|⟨b,_,rfl⟩<;>exact⟨rfl,rfl,rfl⟩
   have cN:Ext w G w G':=by
    rcases hG with rfl|⟨b,hb,rfl⟩
    ·exact Ext.refl _ _
    ·exact Ip b _ (λ_=>by simp[hb])
   have cR:xa (λk=>k = .hcell m off) w G w G':=by
    rcases hG with rfl|⟨b,hb,rfl⟩
    ·exact⟨λb k h _=>⟨h,rfl,λ_ h=>h⟩,λ_ _ h=>h⟩
    ·exact Iq b _ (λk' dh=>by rw[hb] at dh; simpa using dh.symm)
   have dj:FI N w G' (wG st m (.cells (cs.set off (.list false es)))) a vs (wh vs ops):=by
    refine⟨hf.len,λi t' u' h1 h2=>(hf.var i t' u' h1 h2).keep cN cR (by simp) (by simp),λi t' u' h1 h2=>(hf.loc i t' u' h1 h2).keep cN cR (by simp) (by simp),hf.tv,hf.tl,(hf.defers.trans cN.df.symm),by rw[ib.1]; exact hf.gen,?_,by rw[ib.2.1]; exact hf.fixlt,?_,?_⟩
    ·intro b' k da
     rcases hG with rfl|⟨b2,dO,rfl⟩
     ·exact hf.owlt _ _ da
     ·simp only[GS.give] at da
      split at da
      ·subst_vars; exact hf.owlt _ _ dO
      ·exact hf.owlt _ _ da
    ·refine hf.heap.keepBut cN cR (λn k cZ=>⟨by simp,by simp; omega⟩) (λ_ =>?_)
     refine .inr ⟨b,cN.heap _ _ hb,(cR.1 _ _ ep (by simp)).1,by rw[ib.2.1]; exact gj,cv,T,hh,by simp[hl],?_⟩
     intro k c y dM hy
     rw[aO] at hy
     split at hy
     ·rename_i ey
      subst ey
      split at hy
      ·simp at hy; subst hy
       have:c=cv[off]:=by simp[cS] at dM; exact dM.symm
       subst this
       exact⟨(cW.dem).ext cN,rfl,trivial⟩
      ·simp at hy
     ·rename_i ey
      exact(hc k c y dM hy).keep cN cR (by simp; omega)
    ·rw[ib.2.2]; simp only[wG,bp]; exact hf.hdom
   unfold Oper.wp
   have cQ:(Instr.loadAt t (a.eval x)).run P w = .ok cv[off] w:=by
    have dt:w.cell? ⟨b,off,none⟩=some cv[off]:=by simp[World.cell?,hh,cS]
    rw[hv]
    simp[Instr.loadAt,Instr.sureAddr,loadVar,Dd hn,ec.2,dt]
   rw[plain _ cQ]
   exact hk _ _ G' (dj.put nm (yY ho) ⟨cW.ext cN,fv⟩) cN (yZ _ _ _)
  ·simp only[ab,ac] at hs
   obtain⟨r,hr,rfl,rfl⟩:=hs
   obtain⟨hR,hcell⟩:=K1 hh hl hc
   obtain⟨k1,k2,k3⟩:=C6 hR hr eI (BE hn)
   have:=Er (w:=w) hn b off ((cv.toList.take cs.length).drop off) (by simp at k1 ⊢; omega) (λj v hv=>by
    rw[aX] at hv
    exact hcell _ _ hv)
   refine wM nm ho hf (plain _ ?_) (SR.of_pure k2 k3) hk
   rw[hv]
   simpa[Instr.loadAt,Instr.sureAddr] using this
 ·simp at hs
theorem b4d {n off:Nat} {t:TypeId} {cv:Array Value} {cs cs':List PV} {v:PV} {val:Value} (hl:cs.length≤cv.size) (hn:wI P t=some n) (dC:wO n (wW P t) cs off v=some cs') (cW:VR N w G.fix G.heap val v):
  ∃ nc : List Value, val.cells.toList = nc ∧ nc.length = n ∧ off + n ≤ cv.size ∧ (∀ c ∈ nc, c.oneCell' = true) ∧ cs'.length = cs.length ∧
    ∀ (k : Nat) (c : Value) (z : PV), (cv.toList.take off ++ nc ++ cv.toList.drop (off + n))[k]? = some c → cs'[k]? = some z →
      (cv[k]? = some c∧cs[k]? = some z)∨(VR N w G.fix G.heap c z∧z.flat=true∧∀es,z = .list true es→(k=off∧c=val∧v = .list true es)∨c = .slice none 0 0):=by
 unfold wO at dC
 split at dC
 ·rename_i gP
  split at dC
  ·rename_i ws
   split at dC
   ·rename_i cT
    simp only[aa] at dC; subst dC
    obtain⟨ca,mJ,hR⟩:=CellsR.of_agg cW
    have hO:OwnNil ca.toList ws:=OwnNil.of_agg (mJ▸cW)
    have dt:val.cells.toList=ca.toList:=by rw[mJ]; rfl
    have cO:ca.toList.length=n:=by have:=hR.1; omega
    refine⟨ca.toList,dt,cO,by omega,?_,by simp; omega,?_⟩
    ·intro c gg
     obtain⟨i,hi⟩:=bi.1 gg
     have cS:i<ws.length:=by have:=(ai.1 hi).1; have:=hR.1; omega
     have h1:=hR.2.2 i c ws[i] hi (al cS)
     have h2:=h1.oneCell (hR.2.1 _ (aj cS))
     cases c<;>first|rfl|simp[oneCell] at h2
    ·intro k c z dM hz
     rw[aJ] at dM
     have fR:(cv.toList.take off).length=off:=by simp; omega
     have kz:(cs.take off).length=off:=by simp; omega
     by_cases h1:k<off
     ·rw[am (by omega),aW,ah h1] at dM
      rw[am (by omega),aW,ah h1] at hz
      exact .inl ⟨by simpa using dM,hz⟩
     ·rw[ar (by omega),fR] at dM
      rw[ar (by omega),kz] at hz
      by_cases h2:k<off+n
      ·rw[am (by omega)] at dM
       rw[am (by omega)] at hz
       refine .inr ⟨hR.2.2 _ c z dM hz,hR.2.1 z (av hz),?_⟩
       rintro es rfl
       exact .inr (hO _ c es dM hz)
      ·rw[ar (by omega),aX,cO] at dM
       rw[ar (by omega),aX,cT.1] at hz
       rw[show off+n+(k - off - n)=k by omega] at dM hz
       exact .inl ⟨by simpa using dM,hz⟩
   ·simp at dC
  ·simp at dC
 ·rename_i gP
  have nG:=BE hn (by simpa using gP)
  subst nG
  split at dC
  ·rename_i cT
   simp only[aa] at dC; subst dC
   have h1:=cW.oneCell cT.2
   have dt:val.cells.toList=[val]:=by
    cases val<;>first|rfl|simp[oneCell] at h1
   refine⟨[val],dt,rfl,by omega,?_,by simp,?_⟩
   ·intro c gg
    simp at gg; subst gg
    cases c<;>first|rfl|simp[oneCell] at h1
   ·intro k c z dM hz
    rw[aJ] at dM
    have fR:(cv.toList.take off).length=off:=by simp; omega
    rw[aO] at hz
    split at hz
    ·rename_i pp
     subst pp
     split at hz
     ·simp at hz; subst hz
      rw[ar (by omega),fR] at dM
      simp at dM; subst dM
      exact .inr ⟨cW,cT.2,λes e => .inl ⟨rfl,rfl,e⟩⟩
     ·simp at hz
    ·rename_i pp
     refine .inl ⟨?_,hz⟩
     by_cases h1:k<off
     ·rw[am (by omega),aW,ah h1] at dM
      simpa using dM
     ·rw[ar (by omega),fR,ar (by simp; omega),aX] at dM
      simp only[cI] at dM
      rw[show off+1+(k - off - 1)=k by omega] at dM
      simpa using dM
  ·simp at dC
theorem Rq (hE:EnvOk E N) (nm:Names vs (wh vs ops)) (ho:ops[j]? = some o) (hf:FI N w G st a vs (wh vs ops)) {t:TypeId} {n:Nat} {x y:Operand} {px py:PX} (cP:o.op = .store t x y) (ea:o.dst=none) (hn:wI P t=some n)
  (hx:cx E vs ops x=some px) (hy:cx E vs ops y=some py) {cf:wm} (hs:wi cf (.store n (wW P t) px py) st=some (u,st1)) (hk:wy N w G a st1 u vs ops j o next):o.wp P a w next Q:=by
 simp only[wi] at hs
 split at hs
 ·rename_i m off v st' ha ec
  obtain⟨b,hv,hb⟩:=Gq hE hx hf ha
  obtain⟨G1,dj,d7,iz,eT,dP,cW,fw,_,_,_⟩:=EJ hE hy hf ec (.hcell m off)
  simp only[ae,ab,ac] at hs
  obtain⟨cs,hg,cs',dC,rfl,rfl⟩:=hs
  have fe:G1.heap m=some b:=by rw[dP]; exact hb
  obtain⟨ep,gj,cv,T,hh,hl,hc⟩:=DN dj hg fe
  obtain⟨nc,gx,cO,gQ,mV,su,dp⟩:=b4d hl hn dC cW
  have cQ:(execOp a.eval o).run P w = .ok .skip (w.setRow b (cv.toList.take off++nc++cv.toList.drop (off+n)).toArray):=by
   have dC:=run_storeCells_at P b off T nc 0 cv w hh (by simp; omega) mV
   simp only[bq,cO] at dC
   have cV:(a.eval y).cells.size=n:=by rw[← cO,← gx]; simp
   simp[execOp,cP,Instr.storeAt,hv,Instr.sureAddr,storeVar,zu hn,cV,gx,dC]
  unfold Oper.wp
  rw[cQ]
  have eE:b<w.heap.size:=dj.owlt _ _ ep
  have cY:∀x,x≠b→(w.setRow b (cv.toList.take off++nc++cv.toList.drop (off+n)).toArray).heap[x]? = w.heap[x]? := λx hx=>setRow_other w b x _ hx
  have dR:Ext w G1 (w.setRow b (cv.toList.take off++nc++cv.toList.drop (off+n)).toArray) G1:=by
   refine⟨rfl,rfl,rfl,by simp[World.setRow],?_,?_,λ_ _ h => .inl h,λ_ h => .inr h,λ_ _ h=>h,Gp hh _ (by simp; omega),rfl⟩
   ·intro x _ jk
    exact cY x (by rintro rfl; rw[ep] at jk; simp at jk)
   ·intro x o' fG
    refine⟨fG,?_⟩
    have gc:x≠b:=by rintro rfl; exact gj _ fG
    simp only[World.cell?,cY x gc]
  have dG:xa (λk=>k = .hobj m) w G1 (w.setRow b (cv.toList.take off++nc++cv.toList.drop (off+n)).toArray) G1:=by
   refine⟨?_,λ_ _ h=>h⟩
   intro x k gR gH
   refine⟨gR,cY x ?_,λ_ h=>h⟩
   rintro rfl
   rw[ep] at gR
   simp at gR
   exact gH gR.symm
  have iL:FI N (w.setRow b (cv.toList.take off++nc++cv.toList.drop (off+n)).toArray) G1 (wG st' m (.cells cs')) a vs (wh vs ops):=by
   refine⟨dj.len,λi t' u' h1 h2=>(dj.var i t' u' h1 h2).keep dR dG (by simp) (by simp),λi t' u' h1 h2=>(dj.loc i t' u' h1 h2).keep dR dG (by simp) (by simp),dj.tv,dj.tl,dj.defers,dj.gen,?_,?_,?_,?_⟩
   ·intro x k hx; simpa[World.setRow] using dj.owlt x k hx
   ·intro x o' hx; simpa[World.setRow] using dj.fixlt x o' hx
   ·refine dj.heap.keepBut dR dG (λn k cZ=>⟨by simp; omega,by simp⟩) (λ_ =>?_)
    refine .inr ⟨b,fe,ep,gj,_,T,setRow_heap w b cv _ T (0,0) hh,?_,?_⟩
    ·simp; omega
    ·intro k c z dM hz
     rcases dp k c z (by simpa using dM) hz with⟨k1,k2⟩|⟨k1,k2,k3⟩
     ·exact(hc k c z k1 k2).keep dR dG (by simp)
     ·refine⟨(eT▸dP▸k1:VR N w G1.fix G1.heap c z).ext dR,k2,?_⟩
      split
      ·rename_i es
       rcases k3 es rfl with⟨e1,e2,e3⟩|e
       ·subst e1 e2 e3
        have hr:Room w G1 (.hcell m k) (a.eval y) es:=fw
        exact hr.keep dG (by simp)
       ·subst e; trivial
      ·trivial
   ·simp only[wG,bp]; exact dj.hdom
  have f0:a.put o.dst undef=a:=by simp[ea,Act.put]
  have hd:wJ vs o.dst = .n:=by simp[ea,wJ]
  show next (a.put o.dst undef) _
  rw[f0]
  refine hk _ _ G1 ?_ (d7.trans dR) rfl
  rw[hd]
  exact iL
 ·simp at hs
theorem b59 (hE:EnvOk E N) (nm:Names vs (wh vs ops)) (ho:ops[j]? = some o) (hf:FI N w G st a vs (wh vs ops)) {t:TypeId} {n:Nat} {x y:Operand} {px py:PX} (cP:o.op = .store t x y) (ea:o.dst=none) (hn:wI P t=some n)
  (hx:cx E vs ops x=some px) (hy:cx E vs ops y=some py) {cf:wm} (hs:wi cf (.storer n (wW P t) px py) st=some (u,st1)) (hk:wy N w G a st1 u vs ops j o next):o.wp P a w next Q:=by
 refine Rq hE nm ho hf cP ea hn hx hy (cf:=cf) ?_ hk
 simp only[wi] at hs ⊢
 split at hs
 ·rename_i m off v ha hr
  split at hs
  ·simp at hs
  ·rename_i hl
   have ec:tk st py=some (v,st):=by
    unfold tk
    simp only[rd,ae] at hr
    obtain⟨r,h1,h2⟩:=hr
    rw[h1]
    cases r<;>simp[cp] at h2<;>subst h2<;>first|rfl|simp[Gt] at hl
   simp only[ha,ec]
   exact hs
 ·simp at hs
theorem b7T (hE:EnvOk E N) (nm:Names vs (wh vs ops)) (ho:ops[j]? = some o) (hf:FI N w G st a vs (wh vs ops)) {t e:TypeId} {x i:Operand} {px pi:PX} {n len:Nat} (cP:o.op = .indexAddr t x i)
  (hu:P.underlying t=some (.array len e)) (hn:wI P e=some n) (hx:cx E vs ops x=some px) (hi:cx E vs ops i=some pi) {cf:wm} (hs:wi cf (.iaddr len n px pi) st=some (u,st1)) (hk:wy N w G a st1 u vs ops j o next):o.wp P a w next Q:=by
 simp only[wi] at hs
 split at hs
 ·rename_i m off k ha iw
  split at hs
  ·rename_i hb
   simp only[aa,ac] at hs
   obtain⟨rfl,rfl⟩:=hs
   obtain⟨b,hv,vW⟩:=Gq hE hx hf ha
   obtain⟨kk,fT⟩:=A9 hE hi hf iw
   refine wM nm ho hf (v := .pointer (some ⟨b,off+k.toNat*n,none⟩)) ?_ (SR.of_pure (.ptr _ _ b vW) rfl) hk
   simp[execOp,cP,Instr.indexAt,fT,hv,asIntOf,run_underlying hu,Instr.sureAddr,hb,zu hn,zO]
  ·simp at hs
 ·simp at hs
end
end PI
set_option linter.unusedSimpArgs false
set_option linter.unusedVariables false
namespace PI
open Go Go.MapKept
section
variable {E:Env} {N:Nm} {w:World} {G:GS} {st:St} {a:Act} {vs:List Tmp} {ops:List Oper} {P:Program}
variable {o:Oper} {j:Nat} {next:Act→World→Prop} {Q:Exit→Act→World→Prop} {u:PV} {st1:St}
theorem Rv (s t:ByteArray):(s==t)=(s.data.toList==t.data.toList):=by
 rw[aS,MapKept.bytes_beq,br]
 constructor
 ·rintro rfl; rfl
 ·intro h
  obtain⟨⟨s⟩⟩:=s
  obtain⟨⟨t⟩⟩:=t
  simpa using h
theorem c1c {kt:TypeId} {d:TypeDesc} {kk:EK} {fix:Nat→Nat→Prop} {hp:Nat→Option Nat} {vx vy:Value} {x y:PV} {b:Bool} (hd:P.underlying kt=some d) (hk:ekT P kt=some kk) (hx:VR N w fix hp vx x) (hy:VR N w fix hp vy y) (h:zi kk x y=some b):
  Instr.sameNow d vx vy=some b:=by
 unfold ekT at hk
 rw[hd] at hk
 unfold zi at h
 split at h
 ·cases hx; cases hy
  simp only[aa] at h; subst h
  split at hk<;>simp at hk
  rename_i gY
  simp at gY; subst gY
  rfl
 ·cases hx; cases hy
  split at h
  ·subst_vars
   simp only[aa] at h; subst h
   split at hk<;>simp at hk
   rename_i gY
   simp at gY; subst gY
   simp[Instr.sameNow]
  ·simp at h
 ·cases hx; cases hy
  simp only[aa] at h; subst h
  split at hk<;>simp at hk
  rename_i gY
  simp at gY; subst gY
  simp only[Instr.sameNow,Rv]
 ·simp at h
theorem Rw {fix:Nat→Nat→Prop} {hp:Nat→Option Nat} {kk:EK} {vx vy:Value} {x y:PV} (hx:VR N w fix hp vx x) (hy:VR N w fix hp vy y) (h:zi kk x y=some true) (n:Nat):Instr.sameBits n vy vx=true:=by
 unfold zi at h
 split at h
 ·cases hx; cases hy
  simp at h; subst h; simp[Instr.sameBits]
 ·cases hx; cases hy
  split at h
  ·subst_vars
   simp at h; subst h; simp[Instr.sameBits]
  ·simp at h
 ·cases hx with
  | str s =>
    cases hy with
    | str t =>
      have e:(s==t)=true:=by rw[Rv]; simpa using h
      have e':s=t:=(MapKept.bytes_beq s t).1 e
      subst e'
      simpa[Instr.sameBits] using e
 ·simp at h
theorem Rx {kt:TypeId} {d:TypeDesc} {kk:EK} {fix:Nat→Nat→Prop} {hp:Nat→Option Nat} {kv:Value} {kp:PV} (hd:P.underlying kt=some d) (hk:ekT P kt=some kk) (iZ:VR N w fix hp kv kp):
  ∀{mes:List MapEntry} {es:List (PV×PV)} {i:Nat} {r:Option (Nat×PV)},mes.length=es.length→(∀(i:Nat) (e:MapEntry) (p:PV×PV),mes[i]? = some e→es[i]? = some p→VR N w fix hp e.key p.1) →
  xo false [kk] kp es i=some r →
  (r=none∧Instr.findNow d kv mes i=some none)∨(∃n v e p1,r=some (i+n,v)∧Instr.findNow d kv mes i=some (some (i+n,e.val))∧mes[n]? = some e∧es[n]? = some (p1,v)∧zi kk kp p1=some true)
 | [], [], i, r, _, _, h => by
   simp[xo] at h; subst h
   exact .inl ⟨rfl,rfl⟩
 | e :: mes, p :: es, i, r, hl, hv, h => by
   simp only[xo,peq,aH,if_false,ae] at h
   obtain⟨b,hb,h⟩:=h
   have hs:=c1c hd hk iZ (hv 0 e p rfl rfl) hb
   cases b with
   | true =>
     simp at h; subst h
     exact .inr ⟨0,p.2,e,p.1,rfl,by simp[Instr.findNow,hs],rfl,rfl,hb⟩
   | false =>
     simp at h
     rcases Rx hd hk iZ (mes:=mes) (es:=es) (by simpa using hl) (λi e p h1 h2=>hv (i+1) e p (by simpa using h1) (by simpa using h2)) h with⟨h1,h2⟩ | ⟨n,v,e',p1,h1,h2,h3,h4,h5⟩
     ·exact .inl ⟨h1,by simp[Instr.findNow,hs,h2]⟩
     ·exact .inr ⟨n+1,v,e',p1,by rw[h1]; simp; omega,by simp[Instr.findNow,hs,h2]; omega,by simpa using h3,by simpa using h4,h5⟩
 | [],_::_,_,_,hl,_,_=>by simp at hl
 | _::_,[],_,_,hl,_,_=>by simp at hl
theorem b6a {kt:TypeId} {kk:EK} (hk:ekT P kt=some kk) (b:Bool) (v:Value):(Instr.checkKey b 10000 kt v).run P w = .ok () w:=by
 unfold ekT at hk
 unfold Instr.checkKey
 split at hk
 ·rename_i hu; simp only[Sem.run_bind,run_underlying hu,Result.andThen_ok]; cases v<;>rfl
 ·rename_i hu; simp only[Sem.run_bind,run_underlying hu,Result.andThen_ok]; cases v<;>rfl
 ·rename_i hu; simp only[Sem.run_bind,run_underlying hu,Result.andThen_ok]; cases v<;>rfl
 ·simp at hk
theorem Ry {kt:TypeId} {kk:Bool×List EK} (h:C5 P kt=some kk):(∃k,ekT P kt=some k∧kk=(false,[k])) ∨
  ∃fs,P.underlying kt=some (.struct fs)∧eqFields P fs.toList 0=some kk.2∧kk.1=true∧P.stoodInHeld kt=false:=by
 unfold C5 at h
 split at h
 ·rename_i k hk
  simp only[aa] at h
  exact .inl ⟨k,hk,h.symm⟩
 ·split at h
  ·rename_i ks hX
   simp only[aa] at h
   subst h
   unfold eqT at hX
   split at hX
   ·simp at hX
   ·simp at hX
   ·simp at hX
   ·rename_i fs hu
    split at hX
    ·rename_i ks' sH
     split at hX
     ·rename_i cT
      simp only[aa,ac,true_and] at hX
      subst hX
      simp only[ak,bC] at cT
      exact .inr ⟨fs,hu,sH,rfl,cT.1⟩
     ·simp at hX
    ·simp at hX
   ·simp at hX
  ·simp at h
theorem Rz:∀{fs:List Field} {off:Nat} {ks:List EK},eqFields P fs off=some ks→ks.length=fs.length∧∀f∈fs,∃i,off≤i∧i<off+fs.length∧f.offset=i∧f.name ≠ "_" ∧ wI P f.type=some 1∧wW P f.type=false∧∃k,ekT P f.type=some k
 | [],off,ks,h=>by simp[eqFields] at h; subst h; simp
 | f :: fs, off, ks, h => by
   simp only[eqFields] at h
   split at h
   ·rename_i hc
    simp only[ae,ab] at h
    obtain⟨k,hk,ks',hX,rfl⟩:=h
    obtain⟨h1,h2⟩:=Rz hX
    refine⟨by simp[h1],?_⟩
    intro g hg
    rcases aC.1 hg with rfl|hg
    ·exact⟨off,ao _,by simp,hc.1,hc.2.1,hc.2.2.1,hc.2.2.2,k,hk⟩
    ·obtain⟨i,a1,a2,a3⟩:=h2 g hg
     exact⟨i,by omega,by simp; omega,a3⟩
   ·simp at h
theorem IA:∀{ks:List EK} {xs ys:List PV} {b:Bool},yO ks xs ys=some b→xs.length=ks.length∧ys.length=ks.length
 | [],xs,ys,b,h=>by cases xs<;>cases ys<;>simp_all [yO]
 | k :: ks, xs, ys, b, h => by
   cases xs with
   | nil=>simp[yO] at h
   | cons x xs =>
     cases ys with
     | nil=>simp[yO] at h
     | cons y ys =>
       simp only[yO,ae,ab] at h
       obtain⟨_,_,_,h2,_⟩:=h
       obtain⟨a1,a2⟩:=IA h2
       simp[a1,a2]
theorem L4 {ks:List EK} {kp:PV} {es:List (PV×PV)} {i:Nat} {r} (h:xo true ks kp es i=some r):∃cs,kp = .agg cs∧cs.length=ks.length:=by
 cases es with
 | nil =>
   rw[xo.eq_def] at h
   cases kp<;>simp only[Option.ite_none_right_eq_some,reduceCtorEq] at h<;>exact⟨_,rfl,h.1⟩
 | cons e es =>
   simp only[xo,ae] at h
   obtain⟨b,hb,_⟩:=h
   simp only[peq,if_true] at hb
   split at hb
   ·exact⟨_,rfl,(IA hb).1⟩
   ·simp at hb
theorem IB {kt:TypeId} {kk:Bool×List EK} {G:GS} {kv:Value} {kp:PV} (hk:C5 P kt=some kk) (iZ:VR N w G.fix G.heap kv kp) {es:List (PV×PV)} {i:Nat} {r} (h:xo kk.1 kk.2 kp es i=some r) (b:Bool):(Instr.checkKey b 10000 kt kv).run P w = .ok () w:=by
 rcases Ry hk with⟨k,dh,rfl⟩|⟨fs,hu,hf,h1,_⟩
 ·exact b6a dh b kv
 ·rw[h1] at h
  obtain⟨cs,rfl,hl⟩:=L4 h
  obtain⟨vs,rfl,hc⟩:=CellsR.of_agg iZ
  obtain⟨e1,e2⟩:=Rz hf
  have cV:vs.size=fs.size:=by have:=hc.1; simp at this; simp at e1; omega
  have key:∀(l:List Field),(∀f∈l,f∈fs.toList)→((do for f in l do if f.name ≠ "_" then Instr.checkKey b 9999 f.type (← part f.type vs f.offset)):Sem Unit).run P w = .ok () w:=by
   intro l
   induction l with
   | nil=>intro _; rfl
   | cons f l ih =>
     intro hl
     obtain⟨i,a1,a2,a3,a4,a5,a6,k,a7⟩:=e2 f (hl f (by simp))
     have cS:i<vs.size:=by simp at a2; omega
     have jl:(part f.type vs f.offset).run P w = .ok vs[i] w:=by
      simp[part,Dd a5,a6,a3,cS]
     have ic:(Instr.checkKey b 9999 f.type vs[i]).run P w = .ok () w:=by
      unfold ekT at a7
      unfold Instr.checkKey
      split at a7
      ·rename_i hu; simp only[Sem.run_bind,run_underlying hu,Result.andThen_ok]; cases vs[i]<;>rfl
      ·rename_i hu; simp only[Sem.run_bind,run_underlying hu,Result.andThen_ok]; cases vs[i]<;>rfl
      ·rename_i hu; simp only[Sem.run_bind,run_underlying hu,Result.andThen_ok]; cases vs[i]<;>rfl
      ·simp at a7
     have ih':=ih (λg hg=>hl g (by simp[hg]))
     rw[List.forIn_cons]
     simp only[Sem.run_bind,ne_eq,a4,cy,if_true,jl,Result.andThen_ok,ic,Sem.run_pure] at ih' ⊢
     exact ih'
  unfold Instr.checkKey
  simp only[Sem.run_bind,run_underlying hu,Result.andThen_ok,← Array.forIn_toList]
  have:=key fs.toList (λ_ h=>h)
  rw[Sem.run_bind] at this
  exact this
theorem c1d {ks:List EK}:∀{xs ys:List PV} {cs ds:List Value},yO ks xs ys=some true→cs.length=xs.length→ds.length=ys.length→∀{fix:Nat→Nat→Prop} {hp:Nat→Option Nat},(∀(i:Nat) (v:Value) (p:PV),cs[i]? = some v→xs[i]? = some p→VR N w fix hp v p) →
  (∀(i:Nat) (v:Value) (p:PV),ds[i]? = some v→ys[i]? = some p→VR N w fix hp v p)→∀n,((ds.zip cs).all λ(x,y)=>Instr.sameBits n x y)=true:=by
 induction ks with
 | nil =>
   intro xs ys cs ds h h1 h2 fix hp hx hy n
   obtain⟨a1,a2⟩:=IA h
   simp at a1 a2
   subst a1 a2
   simp at h1 h2
   subst h1 h2
   rfl
 | cons k ks ih =>
   intro xs ys cs ds h h1 h2 fix hp hx hy n
   cases xs with
   | nil=>simp[yO] at h
   | cons x xs =>
     cases ys with
     | nil=>simp[yO] at h
     | cons y ys =>
       simp only[yO,ae,ab] at h
       obtain⟨b1,fe,b2,dO,hb⟩:=h
       simp only[ak] at hb
       obtain⟨rfl,rfl⟩:=hb
       cases cs with
       | nil=>simp at h1
       | cons c cs =>
         cases ds with
         | nil=>simp at h2
         | cons d ds =>
           simp only[List.zip_cons_cons,List.all_cons,ak]
           exact⟨Rw (hx 0 c x rfl rfl) (hy 0 d y rfl rfl) fe n,ih dO (by simpa using h1) (by simpa using h2) (λi v p a b=>hx (i+1) v p (by simpa using a) (by simpa using b)) (λi v p a b=>hy (i+1) v p (by simpa using a) (by simpa using b)) n⟩
theorem c1e {kk:Bool×List EK} {G:GS} {vx vy:Value} {x y:PV} (hx:VR N w G.fix G.heap vx x) (hy:VR N w G.fix G.heap vy y) (h:peq kk.1 kk.2 x y=some true) (n:Nat):Instr.sameBits (n+1) vy vx=true:=by
 unfold peq at h
 split at h
 ·split at h
  ·rename_i xs ys
   obtain⟨cs,rfl,hc⟩:=CellsR.of_agg hx
   obtain⟨ds,rfl,hd⟩:=CellsR.of_agg hy
   obtain⟨a1,a2⟩:=IA h
   have h1:=hc.1
   have h2:=hd.1
   simp only[Instr.sameBits,ak,br]
   refine⟨by simp at h1 h2; omega,c1d h (by simpa using h1) (by simpa using h2) (λi v p a b=>hc.2.2 i v p (by simpa using a) b) (λi v p a b=>hd.2.2 i v p (by simpa using a) b) n⟩
  ·simp at h
 ·split at h
  ·exact Rw hx hy h (n+1)
  ·simp at h
theorem L5 {kt:TypeId} {kk:Bool×List EK} {G:GS} {kv:Value} {kp:PV} (hk:C5 P kt=some kk) (iZ:VR N w G.fix G.heap kv kp) {mes:List MapEntry} {es:List (PV×PV)} {r:Option (Nat×PV)} (hl:mes.length=es.length)
  (hv:∀(i:Nat) (e:MapEntry) (p:PV×PV),mes[i]? = some e→es[i]? = some p→VR N w G.fix G.heap e.key p.1) (h:xo kk.1 kk.2 kp es 0=some r):
  (r=none∧(Instr.findKey kt kv mes).run P w = .ok none w)∨(∃n v e p1,r=some (n,v)∧(Instr.findKey kt kv mes).run P w = .ok (some (n,e.val)) w∧mes[n]? = some e∧es[n]? = some (p1,v)∧peq kk.1 kk.2 kp p1=some true):=by
 rcases Ry hk with⟨k,dh,rfl⟩|⟨fs,hu,hf,h1,dC⟩
 ·obtain⟨d,hd⟩:∃d,P.underlying kt=some d:=by
   unfold ekT at dh
   split at dh<;>first|exact⟨_,by assumption⟩|simp at dh
  rcases Rx hd dh iZ hl hv h with⟨a1,a2⟩|⟨n,v,e,p1,a1,a2,a3,a4,a5⟩
  ·exact .inl ⟨a1,run_findKey hd a2⟩
  ·simp only[aM] at a1 a2
   exact .inr ⟨n,v,e,p1,a1,run_findKey hd a2,a3,a4,by simpa[peq] using a5⟩
 ·simp only[h1] at h ⊢
  have ask:∀(mes:List MapEntry) (es:List (PV×PV)) (i:Nat) (r:Option (Nat×PV)),mes.length=es.length→(∀(i:Nat) (e:MapEntry) (p:PV×PV),mes[i]? = some e→es[i]? = some p→VR N w G.fix G.heap e.key p.1)→xo true kk.2 kp es i=some r →
    (r=none∧(Instr.findAsking kt kv mes i).run P w = .ok none w)∨(∃n v e p1,r=some (i+n,v)∧(Instr.findAsking kt kv mes i).run P w = .ok (some (i+n,e.val)) w∧mes[n]? = some e∧es[n]? = some (p1,v)∧peq true kk.2 kp p1=some true):=by
   intro mes
   induction mes with
   | nil =>
     intro es i r hl hv h
     cases es with
     | cons _ _=>simp at hl
     | nil =>
       obtain⟨cs,rfl,cO⟩:=L4 h
       rw[xo.eq_def] at h
       simp only[cO,if_true,aa] at h
       subst h
       exact .inl ⟨rfl,by simp[Instr.findAsking]⟩
   | cons e mes ih =>
     intro es i r hl hv h
     cases es with
     | nil=>simp at hl
     | cons p es =>
       simp only[xo,ae] at h
       obtain⟨b,hb,h⟩:=h
       have ij:=hb
       simp only[peq,if_true] at hb
       split at hb
       ·rename_i ys pd _
        have tW:=hv 0 e p rfl rfl
        rw[pd] at tW
        clear pd
        obtain⟨cs,rfl,hc⟩:=CellsR.of_agg iZ
        obtain⟨ds,rH,hd⟩:=CellsR.of_agg tW
        have pe:P.fieldsOf kt=fs:=by simp[Program.fieldsOf,hu]
        have heq:=run_equalIn_struct (P:=P) w 9999 kt cs ds (by rw[pe]; exact hu) dC
        rw[pe,LO hc hd hf (by simpa using hb)] at heq
        have m6:(Op.equal kt (.agg cs) e.key).run P w = .ok b w:=by
         rw[rH]
         simpa[Op.equal,Op.maxDepth] using heq
        cases b with
        | true =>
          simp at h; subst h
          exact .inr ⟨0,p.2,e,p.1,rfl,by simp[Instr.findAsking,m6],rfl,rfl,ij⟩
        | false =>
          simp at h
          rcases ih es (i+1) r (by simpa using hl) (λi e p a b=>hv (i+1) e p (by simpa using a) (by simpa using b)) h with⟨a1,a2⟩ | ⟨n,v,e',p1,a1,a2,a3,a4,a5⟩
          ·exact .inl ⟨a1,by simp[Instr.findAsking,m6,a2]⟩
          ·exact .inr ⟨n+1,v,e',p1,by rw[a1]; simp; omega,by simp[Instr.findAsking,m6,a2]; omega,by simpa using a3,by simpa using a4,a5⟩
       ·simp at hb
  have m5:(Instr.findKey kt kv mes).run P w=(Instr.findAsking kt kv mes 0).run P w:=by
   obtain⟨cs,rfl,_⟩:=L4 h
   obtain⟨vs,rfl,_⟩:=CellsR.of_agg iZ
   unfold Instr.findKey
   simp only[Sem.run_bind,run_underlying hu,Result.andThen_ok]
   cases mes with
   | nil=>simp[Instr.findNow,Instr.findAsking]
   | cons e mes =>
     have:Instr.findNow (.struct fs) (.agg vs) (e::mes) 0=none:=by simp[Instr.findNow,Instr.sameNow]
     rw[this]
  rw[m5]
  rcases ask mes es 0 r hl hv h with h|⟨n,v,e,p1,a1,a2,a3⟩
  ·exact .inl h
  ·exact .inr ⟨n,v,e,p1,by simpa using a1,by simpa using a2,a3⟩
theorem QL {fix:Nat→Nat→Prop} {hp:Nat→Option Nat} {t:TypeId} {z:PV} (h:Ep P t=some z):∃zv,(zeroValue t).run P w = .ok zv w∧VR N w fix hp zv z∧((∃es,z = .list true es∧zv = .slice none 0 0)∨cp z=some z):=by
 unfold Ep at h
 split at h
 ·rename_i i hi
  simp only[ae] at h
  obtain⟨zv,h1,h2⟩:=h
  exact⟨zv,by simp[zeroValue,typeInfo,hi,h1],Q1 h2,LK h2⟩
 ·simp at h
theorem VR.cp_dem' {fix:Nat→Nat→Prop} {hp:Nat→Option Nat} {v:Value} {p:PV} (h:VR N w fix hp v p):cp (PI.dem p)=some (PI.dem p):=by
 cases h<;>rfl
theorem L6 (hf:FI N w G st a vs (wh vs ops)) {n b:Nat} {es:List (PV×PV)} (hg:w8 st (some n)=some es) (hb:G.heap n=some b):
  G.ow b=some (.hobj n)∧st.heap[n]? = some (.map es)∧ObjR N w G n b (.map es):=by
 unfold w8 at hg
 simp only at hg
 split at hg
 ·rename_i es' hn
  simp at hg; subst hg
  rcases hf.heap.1 n _ hn with e|⟨b',h1,h2,h3⟩
  ·simp at e
  have:b'=b:=by rw[hb] at h1; simpa using h1.symm
  subst this
  exact⟨h2,hn,h3⟩
 ·simp at hg
theorem MR.read {key:Key} {v:Value} {p:PV} (h:MR N w G key v p):VR N w G.fix G.heap v (dem p):=h.1.dem
theorem b7V (hE:EnvOk E N) (nm:Names vs (wh vs ops)) (ho:ops[j]? = some o) (hf:FI N w G st a vs (wh vs ops)) {t kt e:TypeId} {m x:Operand} {ok:Bool} {kk:Bool×List EK} {z:PV} {pm px:PX} {tk:Bool}
  (cP:o.op = .lookup t m x ok) (hu:P.underlying t=some (.map kt e)) (eZ:C5 P kt=some kk) (hz:Ep P e=some z) (hm:cx E vs ops m=some pm) (hx:cx E vs ops x=some px) {cf:wm}
  (hs:wi cf (.lookup ok tk kk.1 kk.2 z pm px) st=some (u,st1)) (hk:wy N w G a st1 u vs ops j o next):o.wp P a w next Q:=by
 obtain⟨zv,eX,eH,lq⟩:=QL (P:=P) (N:=N) (w:=w) (fix:=G.fix) (hp:=G.heap) hz
 simp only[wi] at hs
 split at hs
 ·rename_i n k pC sI
  have iZ:=(wL hE hx hf sI).1
  have m7:=(wL hE hm hf pC).1
  simp only[ae] at hs
  obtain⟨es,hg,r,fU,hs⟩:=hs
  have run:∀(mes:Array MapEntry) (r':Option (Nat×Value)),(a.eval m = .map none∧mes = #[]∨∃b clock,a.eval m = .map (some b)∧w.heap[b]? = some (.map mes clock))→(Instr.findKey kt (a.eval x) mes.toList).run P w = .ok r' w →
    (execOp a.eval o).run P w = .ok (.value (if ok then .tuple #[(r'.map Prod.snd).getD zv,.bool r'.isSome] else(r'.map Prod.snd).getD zv)) w:=by
   intro mes r' h1 h2
   have m5:=h2
   rcases h1 with⟨h1,rfl⟩|⟨b,clock,h1,h3⟩
   ·simp only[execOp,cP,Instr.lookup,Sem.run_bind,run_underlying hu,Result.andThen_ok,h1,Sem.run_pure,IB eZ iZ fU,m5]
    cases r' with
    | none=>simp[eX]
    | some q=>simp
   ·simp only[execOp,cP,Instr.lookup,Sem.run_bind,run_underlying hu,Result.andThen_ok,h1,run_getObj_map h3,Sem.run_pure,IB eZ iZ fU,m5]
    cases r' with
    | none=>simp[eX]
    | some q=>simp
  generalize lY:a.eval m=mv at m7 run
  cases m7 with
  | mapn =>
    simp only[w8,aa] at hg
    subst hg
    have h0:=L5 (P:=P) eZ iZ (mes:=[]) (es:=[]) rfl (by simp) fU
    have lK:r=none∧(Instr.findKey kt (a.eval x) []).run P w = .ok none w:=by
     rcases h0 with h0|⟨n,v,e,p1,_,_,h3,_⟩
     ·exact h0
     ·simp at h3
    obtain⟨rfl,d4⟩:=lK
    simp only[aa,ac] at hs
    obtain⟨rfl,rfl⟩:=hs
    have cQ:=run #[] none (.inl ⟨rfl,rfl⟩) d4
    simp only[cd,Option.getD_none,Option.isSome_none] at cQ
    cases ok with
    | true =>
      refine wM nm ho hf cQ (SR.of_pure (.tuple _ _ rfl ?_) rfl) hk
      intro i c p hc hp
      match i,hc,hp with
      | 0,hc,hp=>simp at hc hp; subst hc hp; exact eH
      | 1,hc,hp=>simp at hc hp; subst hc hp; exact .bool _
    | false =>
      refine wM nm ho hf cQ ?_ hk
      rcases lq with⟨es,rfl,rfl⟩|h
      ·exact⟨eH,trivial⟩
      ·exact SR.of_pure eH h
  | map n b hb =>
    obtain⟨ep,sf,hobj⟩:=L6 hf hg hb
    obtain⟨mes,clock,a1,a2,a3,a4,a5⟩:=hobj
    have hK:(Value.map (some b) = .map none∧mes = #[])∨∃b' clock,Value.map (some b) = .map (some b')∧w.heap[b']? = some (.map mes clock) := .inr ⟨b,clock,rfl,a1⟩
    rcases L5 eZ iZ (mes:=mes.toList) (es:=es) (by simpa using a2) (λi e p h1 h2=>(a5 i e p (by simpa using h1) h2).1) fU with⟨rfl,h2⟩ | ⟨i,v,en,p1,rfl,h2,h3,h4,_⟩
    ·have cQ:=run mes none hK h2
     simp only[aa,ac] at hs
     obtain⟨rfl,rfl⟩:=hs
     simp only[cd,Option.getD_none,Option.isSome_none] at cQ
     cases ok with
     | true =>
       refine wM nm ho hf cQ (SR.of_pure (.tuple _ _ rfl ?_) rfl) hk
       intro i c p hc hp
       match i,hc,hp with
       | 0,hc,hp=>simp at hc hp; subst hc hp; exact eH
       | 1,hc,hp=>simp at hc hp; subst hc hp; exact .bool _
     | false =>
       refine wM nm ho hf cQ ?_ hk
       rcases lq with⟨es,rfl,rfl⟩|h
       ·exact⟨eH,trivial⟩
       ·exact SR.of_pure eH h
    ·have cQ:=run mes _ hK h2
     have lz:=(a5 i en (p1,v) (by simpa using h3) h4).2
     simp only[aB,bO,Option.isSome_some] at cQ
     simp only at hs
     split at hs
     ·
      rename_i ec
      simp only[ak,bC] at ec
      obtain⟨⟨_,dc⟩,ej⟩:=ec
      subst dc
      have:∃l,v = .list true l:=by
       unfold Gu at ej
       split at ej
       ·exact⟨_,rfl⟩
       ·simp at ej
      obtain⟨l,rfl⟩:=this
      simp only[aa,ac] at hs
      obtain⟨rfl,rfl⟩:=hs
      obtain⟨cW,dA⟩:=lz
      obtain⟨G',hG,fv⟩:=Room.give (key':=xU (wJ vs o.dst) j) dA
      have ib:G'.box=G.box∧G'.fix=G.fix∧G'.heap=G.heap:=by
       rcases hG with rfl|⟨b,_,rfl⟩<;>exact⟨rfl,rfl,rfl⟩
      have cN:Ext w G w G':=by
       rcases hG with rfl|⟨b,hb,rfl⟩
       ·exact Ext.refl _ _
       ·exact Ip b _ (λ_=>by simp[hb])
      have cR:xa (λk=>k = .hcell n i) w G w G':=by
       rcases hG with rfl|⟨b,hb,rfl⟩
       ·exact⟨λb k h _=>⟨h,rfl,λ_ h=>h⟩,λ_ _ h=>h⟩
       ·exact Iq b _ (λk' dh=>by rw[hb] at dh; simpa using dh.symm)
      have dj:FI N w G' (wG st n (.map (es.modify i λe=>(e.1,dem e.2)))) a vs (wh vs ops):=by
       refine⟨hf.len,λi' t' u' h1 h2=>(hf.var i' t' u' h1 h2).keep cN cR (by simp) (by simp),λi' t' u' h1 h2=>(hf.loc i' t' u' h1 h2).keep cN cR (by simp) (by simp),hf.tv,hf.tl,(hf.defers.trans cN.df.symm),by rw[ib.1]; exact hf.gen,?_,by rw[ib.2.1]; exact hf.fixlt,?_,?_⟩
       ·intro b' k da
        rcases hG with rfl|⟨b2,dO,rfl⟩
        ·exact hf.owlt _ _ da
        ·simp only[GS.give] at da
         split at da
         ·subst_vars; exact hf.owlt _ _ dO
         ·exact hf.owlt _ _ da
       ·refine hf.heap.keepBut cN cR (λn' k cZ=>⟨by simp,by simp; omega⟩) (λ_ =>?_)
        refine .inr ⟨b,cN.heap _ _ hb,(cR.1 _ _ ep (by simp)).1,mes,clock,a1,by simpa using a2,a3,a4,?_⟩
        intro i' e' p' dx eM
        rw[bg] at eM
        by_cases jE:i=i'
        ·subst jE
         rw[h4] at eM
         simp at eM; subst eM
         have:e'=en:=by rw[← bI] at dx; rw[h3] at dx; simpa using dx.symm
         subst this
         obtain⟨b1,b2⟩:=a5 i e' (p1,.list true l) dx h4
         exact⟨b1.ext cN,(b2.1.dem).ext cN,trivial⟩
        ·simp only[jE,if_false,cJ] at eM
         have hp'':es[i']? = some p':=by simpa using eM
         obtain⟨b1,b2⟩:=a5 i' e' p' dx hp''
         exact⟨b1.ext cN,b2.keep cN cR (by simp; omega)⟩
       ·rw[ib.2.2]; simp only[wG,bp]; exact hf.hdom
      unfold Oper.wp
      rw[cQ]
      exact hk _ _ G' (dj.put nm (yY ho) ⟨cW.ext cN,fv⟩) cN (yZ _ _ _)
     ·simp only[aa,ac] at hs
      obtain⟨rfl,rfl⟩:=hs
      have nA:VR N w G.fix G.heap en.val (dem v):=lz.1.dem
      cases ok with
      | true =>
        refine wM nm ho hf cQ (SR.of_pure (.tuple _ _ rfl ?_) rfl) hk
        intro i c p hc hp
        match i,hc,hp with
        | 0,hc,hp=>simp at hc hp; subst hc hp; exact nA
        | 1,hc,hp=>simp at hc hp; subst hc hp; exact .bool _
      | false=>exact wM nm ho hf cQ (SR.of_pure nA lz.1.cp_dem') hk
 ·simp at hs
theorem c25 {b:Nat} (hb:b<w.heap.size) (gT:∃mes clock,w.heap[b]? = some (.map mes clock)) (fG:G.ow b≠none) (mes':Array MapEntry) (clock':Nat):
  let w':World:={ w with heap:=w.heap.setIfInBounds b (.map mes' clock') }
  Ext w G w' G∧w'.heap[b]? = some (.map mes' clock')∧∀x,x≠b→w'.heap[x]? = w.heap[x]? := by
 intro w'
 have dD:∀x,x≠b→w'.heap[x]? = w.heap[x]? := λx hx=>by simp[w',be,Ne.symm hx]
 have fp:w'.heap[b]? = some (.map mes' clock'):=by simp[w',be,hb]
 refine⟨⟨rfl,rfl,rfl,by simp[w'],?_,?_,λ_ _ h => .inl h,λ_ h => .inr h,λ_ _ h=>h,.one b (λk _ hk=>dD k hk) (λs hx=>by obtain⟨mes,clock,h⟩:=gT; simp[World.shape?,h] at hx) (λs hx=>by obtain⟨mes,clock,h⟩:=gT; simp[yN,h] at hx),rfl⟩,fp,dD⟩
 ·intro x _ hx
  exact dD x (by rintro rfl; exact fG hx)
 ·intro x o hx
  refine⟨hx,?_⟩
  by_cases gc:x=b
  ·subst gc
   obtain⟨mes,clock,h⟩:=gT
   simp only[World.cell?,fp,h]
  ·simp only[World.cell?,dD x gc]
theorem Rr (hE:EnvOk E N) (nm:Names vs (wh vs ops)) (ho:ops[j]? = some o) (hf:FI N w G st a vs (wh vs ops)) {t kt e:TypeId} {m x y:Operand} {kk:Bool×List EK} {pm px py:PX}
  (cP:o.op = .mapUpdate t m x y∨o.op = .insert t m x y) (ea:o.dst=none) (hu:P.underlying t=some (.map kt e)) (eZ:C5 P kt=some kk) (hm:cx E vs ops m=some pm) (hx:cx E vs ops x=some px) (hy:cx E vs ops y=some py) {cf:wm}
  (hs:wi cf (.mset kk.1 kk.2 pm px py) st=some (u,st1)) (hk:wy N w G a st1 u vs ops j o next):o.wp P a w next Q:=by
 simp only[wi] at hs
 split at hs
 ·rename_i n k v st' pC sI ec
  have iZ:=(wL hE hx hf sI).1
  have m7:=(wL hE hm hf pC).1
  simp only[ae,ab] at hs
  obtain⟨es,hg,r,fU,hs⟩:=hs
  generalize lY:a.eval m=mv at m7
  cases m7 with
  | map _ b hb =>
    let idx:Nat:=match r with | some (i,_)=>i | none=>es.length
    obtain⟨G1,dj,d7,iz,eT,dP,cW,fw,_,_,_⟩:=EJ hE hy hf ec (.hcell n idx)
    have fe:G1.heap n=some b:=by rw[dP]; exact hb
    obtain⟨ep,sf,hobj⟩:=L6 dj hg fe
    obtain⟨mes,clock,a1,a2,a3,a4,a5⟩:=hobj
    have jH:VR N w G1.fix G1.heap (a.eval x) k:=by rw[eT,dP]; exact iZ
    have mW:VR N w G1.fix G1.heap (a.eval y) v:=by rw[eT,dP]; exact cW
    have lD:MR N w G1 (.hcell n idx) (a.eval y) v:=by
     refine⟨mW,?_⟩
     split
     ·exact fw
     ·trivial
    have eE:b<w.heap.size:=dj.owlt _ _ ep
    have f0:a.put o.dst undef=a:=by simp[ea,Act.put]
    have di:wJ vs o.dst = .n:=by simp[ea,wJ]
    have finish:∀(mes':Array MapEntry) (clock':Nat) (es':List (PV×PV)),(execOp a.eval o).run P w = .ok .skip { w with heap:=w.heap.setIfInBounds b (.map mes' clock') }→mes'.size=es'.length →
      (∀(i:Nat) (e:MapEntry),mes'[i]? = some e→e.born<clock')→(∀(i i':Nat) (e e':MapEntry),mes'[i]? = some e→mes'[i']? = some e'→e.born=e'.born→i=i') →
      (∀(i:Nat) (e:MapEntry) (p:PV×PV),mes'[i]? = some e→es'[i]? = some p→VR N w G1.fix G1.heap e.key p.1∧MR N w G1 (.hcell n i) e.val p.2)→u = .dead→st1=wG st' n (.map es')→o.wp P a w next Q:=by
     intro mes' clock' es' cQ b2 b3 b4 b5 eR jQ
     subst eR jQ
     obtain⟨dR,fp,cY⟩:=c25 (G:=G1) eE ⟨mes,clock,a1⟩ (by rw[ep]; simp) mes' clock'
     unfold Oper.wp
     rw[cQ]
     have dG:xa (λk=>k = .hobj n) w G1 { w with heap:=w.heap.setIfInBounds b (.map mes' clock') } G1:=by
      refine⟨?_,λ_ _ h=>h⟩
      intro x k gR gH
      refine⟨gR,cY x ?_,λ_ h=>h⟩
      rintro rfl
      rw[ep] at gR
      simp at gR
      exact gH gR.symm
     have iL:FI N { w with heap:=w.heap.setIfInBounds b (.map mes' clock') } G1 (wG st' n (.map es')) a vs (wh vs ops):=by
      refine⟨dj.len,λi t' u' h1 h2=>(dj.var i t' u' h1 h2).keep dR dG (by simp) (by simp),λi t' u' h1 h2=>(dj.loc i t' u' h1 h2).keep dR dG (by simp) (by simp),dj.tv,dj.tl,dj.defers,dj.gen,?_,?_,?_,?_⟩
      ·intro x k hx; simpa using dj.owlt x k hx
      ·intro x o' hx; simpa using dj.fixlt x o' hx
      ·refine dj.heap.keepBut dR dG (λn' k cZ=>⟨by simp; omega,by simp⟩) (λ_ =>?_)
       refine .inr ⟨b,fe,ep,mes',clock',fp,b2,b3,b4,?_⟩
       intro i en p hi hp
       obtain⟨c1,c2⟩:=b5 i en p hi hp
       exact⟨c1.ext dR,c2.keep dR dG (by simp)⟩
      ·simp only[wG,bp]; exact dj.hdom
     show next (a.put o.dst undef) _
     rw[f0]
     refine hk _ _ G1 ?_ (d7.trans dR) rfl
     rw[di]
     exact iL
    have gS:∀w',(Instr.mapUpdate t (.map (some b)) (a.eval x) (a.eval y)).run P w = .ok () w'→(execOp a.eval o).run P w = .ok .skip w':=by
     intro w' h
     rcases cP with cP|cP<;>simp[execOp,cP,lY,h]
    rcases L5 eZ jH (mes:=mes.toList) (es:=es) (by simpa using a2) (λi e p h1 h2=>(a5 i e p (by simpa using h1) h2).1) fU with⟨rfl,h2⟩ | ⟨i,v',en,p1,rfl,h2,h3,h4,h5⟩
    ·
     simp only[ac] at hs
     obtain⟨rfl,rfl⟩:=hs
     refine finish (mes.push { key:=a.eval x,val:=a.eval y,born:=clock }) (clock+1) (es++[(k,v)]) (gS _ ?_) (by simp[a2]) ?_ ?_ ?_ rfl rfl
     ·simp only[Instr.mapUpdate,Sem.run_bind,run_underlying hu,Result.andThen_ok,run_getObj_map a1,IB eZ jH fU,h2,run_setObj_map _ a1]
     ·intro i e' dx
      rw[Array.getElem?_push] at dx
      split at dx
      ·simp at dx; subst dx; simp
      ·have:=a3 i e' dx; omega
     ·intro i i' e' e'' dx he'' iB
      rw[Array.getElem?_push] at dx he''
      split at dx<;>split at he''
      ·omega
      ·simp at dx; subst dx
       have:=a3 i' e'' he''; simp at iB; omega
      ·simp at he''; subst he''
       have:=a3 i e' dx; simp at iB; omega
      ·exact a4 i i' e' e'' dx he'' iB
     ·intro i e' p dx hp
      rw[Array.getElem?_push] at dx
      split at dx
      ·rename_i hi
       simp at dx; subst dx
       rw[ar (by omega)] at hp
       have:i - es.length=0:=by omega
       rw[this] at hp
       simp at hp; subst hp
       refine⟨jH,?_⟩
       have jB:idx=i:=by show es.length=i; omega
       rw[jB] at lD
       exact lD
      ·have hi:i<es.length:=by have:=(aV.1 dx).1; omega
       rw[am hi] at hp
       exact a5 i e' p dx hp
    ·
     simp only[ac] at hs
     obtain⟨rfl,rfl⟩:=hs
     have jB:idx=i:=by show i=i; rfl
     rw[jB] at lD
     have cS:i<mes.size:=by have:=(ai.1 h3).1; simpa using this
     have jP:mes[i]? = some en:=by rw[← bI]; exact h3
     have pF:Instr.sameBits 10000 en.key (a.eval x)=true:=c1e jH (a5 i en (p1,v') jP h4).1 h5 9999
     refine finish (mes.modify i λe=>{ e with key:=a.eval x,val:=a.eval y }) clock (es.set i (k,v)) (gS _ ?_) (by simp[a2]) ?_ ?_ ?_ rfl rfl
     ·simp only[Instr.mapUpdate,Sem.run_bind,run_underlying hu,Result.andThen_ok,run_getObj_map a1,IB eZ jH fU,h2,jP,aB,bO,Instr.keyThatStays,pF,if_true,Sem.run_pure,run_setObj_map _ a1]
     ·intro i' e' dx
      rw[cK] at dx
      split at dx
      ·simp only[ab] at dx
       obtain⟨e2,h6,rfl⟩:=dx
       exact a3 i' e2 h6
      ·exact a3 i' e' dx
     ·have da:∀(i':Nat) (e':MapEntry),(mes.modify i λe=>{ e with key:=a.eval x,val:=a.eval y })[i']? = some e'→∃e2:MapEntry,mes[i']? = some e2∧e2.born=e'.born:=by
       intro i' e' dx
       rw[cK] at dx
       split at dx
       ·simp only[ab] at dx
        obtain⟨e2,h6,rfl⟩:=dx
        exact⟨e2,h6,rfl⟩
       ·exact⟨e',dx,rfl⟩
      intro i1 i2 e1 e2 vX rI iB
      obtain⟨f1,g1,g2⟩:=da i1 e1 vX
      obtain⟨f2,g3,g4⟩:=da i2 e2 rI
      exact a4 i1 i2 f1 f2 g1 g3 (by rw[g2,g4,iB])
     ·intro i' e' p dx hp
      rw[cK] at dx
      rw[aO] at hp
      split at dx
      ·rename_i jE
       subst jE
       rw[ah rfl] at hp
       split at hp
       ·simp at hp; subst hp
        rw[jP] at dx
        simp at dx; subst dx
        exact⟨jH,lD⟩
       ·simp at hp
      ·rename_i jE
       rw[af jE] at hp
       exact a5 i' e' p dx hp
 ·simp at hs
theorem c1f (hE:EnvOk E N) (nm:Names vs (wh vs ops)) (ho:ops[j]? = some o) (hf:FI N w G st a vs (wh vs ops)) {t kt e:TypeId} {ts:Array TypeId} {x:Operand} {px:PX} (cP:o.op = .call { callee := .builtin .len,args := #[x],argTypes:=ts })
  (h0:ts[0]? = some t) (hu:P.underlying t=some (.map kt e)) (hx:cx E vs ops x=some px) {cf:wm} (hs:wi cf (.mlen px) st=some (u,st1)) (hk:wy N w G a st1 u vs ops j o next):o.wp P a w next Q:=by
 simp only[wi] at hs
 split at hs
 ·rename_i n hp
  simp only[ab,ac] at hs
  obtain⟨es,hg,rfl,rfl⟩:=hs
  have h:=(wL hE hx hf hp).1
  generalize hv:a.eval x=v at h
  refine wM nm ho hf ?_ (SR.of_pure (.int _ _) rfl) hk
  cases h with
  | mapn =>
    simp only[w8,aa] at hg
    subst hg
    simp only[execOp,cP,resolve,Sem.run_bind,Sem.run_pure,Result.andThen_ok,invoke,builtin,Builtin.len_,h0,List.map_toArray,ax,ba,hv,bN,bZ,run_underlying hu,goInt]
    rfl
  | map n b hb =>
    obtain⟨_,_,mes,clock,a1,a2,_⟩:=L6 hf hg hb
    simp only[execOp,cP,resolve,Sem.run_bind,Sem.run_pure,Result.andThen_ok,invoke,builtin,Builtin.len_,h0,List.map_toArray,ax,ba,hv,bN,bZ,run_underlying hu,goInt,run_getObj_map a1,a2]
 ·simp at hs
theorem c1g (hE:EnvOk E N) {x:Operand} {px:PX} (hc:cx E vs ops x=some px) (hf:FI N w G st a vs (wh vs ops)) (ht:zI st px=some (u,st1)):
  ∃G',FI N w G' st1 a vs (wh vs ops)∧Ext w G w G'∧VR N w G'.fix G'.heap (a.eval x) u:=by
 by_cases kl:∃i g cs,px = .v i∧raw st px=some (.loc g cs)
 ·obtain⟨i,g,cs,rfl,hr⟩:=kl
  simp only[zI,hr,aa,ac] at ht
  obtain⟨rfl,rfl⟩:=ht
  have hs:=BK hE hc hf hr
  obtain⟨b,i',hk,hv,hb,ho,nE,cv,T,hh,hl,iM⟩:=hs
  simp only[zt,Key.var.injEq] at hk
  subst hk
  have eE:=hf.owlt _ _ ho
  let G':GS:={ G with fix:=λb' o=>G.fix b' o∨(b'=b∧o<cs.length),ow:=λb'=>if b'=b then none else G.ow b' }
  have cN:Ext w G w G':=by
   refine⟨rfl,rfl,rfl,ao _,λ_ _ _=>rfl,λ_ _ h=>⟨.inl h,rfl⟩,?_,?_,λ_ _ h=>h,ShapeLe.refl w,rfl⟩
   ·rintro b' o (h|⟨rfl,_⟩)
    ·exact .inl h
    ·refine .inr (.inr ?_)
     rw[show G.ow b'=some (zt (.v i)) from ho]; simp
   ·intro b' h
    simp only[G'] at h
    split at h
    ·simp at h
    ·exact .inr h
  have cR:xa (λk=>k = .var i) w G w G':=by
   refine⟨?_,λ_ _ h=>h⟩
   intro b' k da hn
   have cZ:b'≠b:=by rintro rfl; rw[show G.ow b'=some (zt (.v i)) from ho] at da; simp[zt] at da; exact hn da.symm
   refine⟨by simp only[G']; rw[af cZ]; exact da,rfl,?_⟩
   rintro o (h|⟨h,_⟩)
   ·exact h
   ·exact absurd h cZ
  have cW:VR N w G'.fix G'.heap (a.eval x) (.cptr (cs.map dem)):=by
   rw[hv]
   refine .cptr b 0 (cs.map dem) (λk=>cv.getD k undef) ?_ ?_ ?_
   ·intro y hy
    obtain⟨z,hz,rfl⟩:=bc.1 hy
    obtain⟨k,hk⟩:=bi.1 hz
    have cS:k<cv.size:=by have:=(ai.1 hk).1; omega
    rw[DJ]
    exact(iM k cv[k] z (by simp[cS]) hk).2.1
   ·intro k hk
    simp only[aA] at hk
    have cS:k<cv.size:=by omega
    refine⟨?_,.inr ⟨rfl,by omega⟩⟩
    simp[World.cell?,hh,cS]
   ·intro k y hy
    simp only[az,ab] at hy
    obtain⟨z,hz,rfl⟩:=hy
    have cS:k<cv.size:=by have:=(ai.1 hz).1; omega
    have:=(iM k cv[k] z (by simp[cS]) hz).1
    simp only[aT,cM cS,bO]
    exact this.dem.ext cN
  have hx:∃t,vs[i]? = some t∧a.eval (.tmp t)=a.eval x:=by
   cases x with
   | tmp t =>
     simp only[cx] at hc
     split at hc
     ·rename_i i2 hi
      simp at hc; subst hc
      obtain⟨_,h2⟩:=Cw hi
      exact⟨t,by simpa using h2,rfl⟩
     ·simp at hc
   | const v=>simp only[cx] at hc; split at hc<;>simp at hc
   | global g=>simp[cx] at hc
   | func f=>simp[cx] at hc
  obtain⟨tx,nI,kL⟩:=hx
  refine⟨G',?_,cN,cW⟩
  refine⟨by simp[hf.len],?_,λj' t' u' h1 h2=>(hf.loc j' t' u' h1 h2).keep cN cR (by simp) (by simp),hf.tv,hf.tl,hf.defers,hf.gen,?_,?_,hf.heap.keep cN cR (by rintro k hk rfl; simp[Key.isH] at hk),hf.hdom⟩
  ·intro i' t' u' h1 h2
   simp only[aO] at h2
   split at h2
   ·rename_i hi
    subst hi
    split at h2
    ·simp at h2; subst h2
     have:t'=tx:=by rw[nI] at h1; simpa using h1.symm
     subst this
     exact SR.of_pure (kL▸cW) rfl
    ·simp at h2
   ·rename_i hi
    exact(hf.var i' t' u' h1 h2).keep cN cR (by simp; omega) (by simp)
  ·intro b' k h
   simp only[G'] at h
   split at h
   ·simp at h
   ·exact hf.owlt _ _ h
  ·rintro b' o (h|⟨rfl,_⟩)
   ·exact hf.fixlt _ _ h
   ·exact eE
 ·have fN:zI st px=(rd st px).map (·,st):=by
   unfold zI
   split
   ·rename_i i g cs h; exact absurd ⟨i,g,cs,rfl,h⟩ kl
   ·rfl
  rw[fN] at ht
  simp only[ab,ac] at ht
  obtain⟨r,hr,rfl,rfl⟩:=ht
  exact⟨G,hf,Ext.refl _ _,(wL hE hc hf hr).1⟩
theorem L7 (hE:EnvOk E N):∀{xs:List Operand} {pxs:List PX} {G:GS} {st st1:St} {us:List PV},cxs E vs ops xs=some pxs→FI N w G st a vs (wh vs ops)→xW st pxs=some (us,st1) →
  ∃G',FI N w G' st1 a vs (wh vs ops)∧Ext w G w G'∧xs.length=us.length∧∀(i:Nat) (x:Operand) (u:PV),xs[i]? = some x→us[i]? = some u→VR N w G'.fix G'.heap (a.eval x) u
 | [], pxs, G, st, st1, us, hc, hf, h => by
   simp[cxs] at hc; subst hc
   simp only[xW,aa,ac] at h
   obtain⟨rfl,rfl⟩:=h
   exact⟨G,hf,Ext.refl _ _,rfl,by simp⟩
 | x :: xs, pxs, G, st, st1, us, hc, hf, h => by
   simp only[cxs,ae,ab] at hc
   obtain⟨p,hp,ps,dT,rfl⟩:=hc
   simp only[xW,ae,ab,ac] at h
   obtain⟨⟨v,st2⟩,h1,⟨q,st3⟩,h2,rfl,rfl⟩:=h
   obtain⟨G1,f1,e1,v1⟩:=c1g hE hp hf h1
   obtain⟨G2,f2,e2,l2,v2⟩:=L7 hE dT f1 h2
   refine⟨G2,f2,e1.trans e2,by simp[l2],?_⟩
   intro i y z hy hz
   cases i with
   | zero=>simp at hy hz; subst hy hz; exact v1.ext e2
   | succ i=>exact v2 i y z (by simpa using hy) (by simpa using hz)
theorem b7W (hE:EnvOk E N) (nm:Names vs (wh vs ops)) (ho:ops[j]? = some o) (hf:FI N w G st a vs (wh vs ops)) {f:FuncId} {k:Nat} {xs ys:Array Operand} {ps qs:List PX} (cP:o.op = .makeFunc (.func f) xs ys) (dh:E.inv f=some k)
  (hx:cxs E vs ops xs.toList=some ps) (hy:cxs E vs ops ys.toList=some qs) {cf:wm} (hs:wi cf (.mkfunc k ps qs) st=some (u,st1)) (hk:wy N w G a st1 u vs ops j o next):o.wp P a w next Q:=by
 simp only[wi,ae,ab,ac] at hs
 obtain⟨⟨us,st2⟩,h1,⟨zs,st3⟩,h2,rfl,rfl⟩:=hs
 obtain⟨G1,f1,e1,l1,v1⟩:=L7 hE hx hf h1
 obtain⟨G2,f2,e2,l2,v2⟩:=L7 hE hy f1 h2
 have d4:=hE.fn _ _ dh
 have vY:=hE.yl _ _ dh
 unfold Oper.wp
 have cQ:(execOp a.eval o).run P w = .ok (.value (.func (.func f) (xs.map a.eval) (ys.map a.eval))) w:=by
  simp[execOp,cP,Instr.makeFunc]
 rw[cQ]
 refine hk _ _ G2 (f2.put nm (yY ho) (SR.of_pure ?_ rfl)) (e1.trans e2) (yZ _ _ _)
 subst d4
 refine .func k _ _ us zs vY (by simpa using l1) (by simpa using l2) ?_ ?_
 ·intro i c p hc hp
  simp only[bU,ab] at hc
  obtain⟨x,eB,rfl⟩:=hc
  exact(v1 i x p (by simpa using eB) hp).ext e2
 ·intro i c p hc hp
  simp only[bU,ab] at hc
  obtain⟨x,eB,rfl⟩:=hc
  exact v2 i x p (by simpa using eB) hp
theorem IC {t:TypeId} {v c:Value} {b:Bool} (h:(Op.equalIn 10000 t v c).run P w = .ok b w) (op:BinOp) (cP:op = .eql∨op = .neq) (x y:Operand)
  (hg:(eqGuard op t x y v c).run P w = .ok () w) (fe:binOp .eql t v c=(do let r←Op.equal t v c; pure (.bool r))) (dO:binOp .neq t v c=(do let r←Op.equal t v c; pure (.bool !r))):
  (do eqGuard op t x y v c; binOp op t v c:Sem Value).run P w = .ok (.bool (if op == .neq then !b else b)) w:=by
 have h':(Op.equal t v c).run P w = .ok b w:=h
 rcases cP with rfl|rfl
 ·simp only[Sem.run_bind,hg,Result.andThen_ok,fe,h',Sem.run_pure]; rfl
 ·simp only[Sem.run_bind,hg,Result.andThen_ok,dO,h',Sem.run_pure]; rfl
theorem c26 {t e:TypeId} (hu:P.underlying t=some (.slice e)) (ad:Option Addr) (l c:Nat):(Op.equalIn 10000 t (.slice ad l c) (.slice none 0 0)).run P w = .ok ad.isNone w:=by
 unfold Op.equalIn
 simp only[Sem.run_bind,run_underlying hu,Result.andThen_ok]
 cases ad<;>rfl
theorem c8h {t e:TypeId} (hu:P.underlying t=some (.pointer e)) (ad:Option Addr):(Op.equalIn 10000 t (.pointer ad) (.pointer none)).run P w = .ok ad.isNone w:=by
 unfold Op.equalIn
 simp only[Sem.run_bind,run_underlying hu,Result.andThen_ok]
 cases ad<;>rfl
theorem c8i {t k e:TypeId} (hu:P.underlying t=some (.map k e)) (r:Option Nat):(Op.equalIn 10000 t (.map r) (.map none)).run P w = .ok r.isNone w:=by
 unfold Op.equalIn
 simp only[Sem.run_bind,run_underlying hu,Result.andThen_ok]
 cases r<;>rfl
theorem c27 {t:TypeId} {ms:Array (String×TypeId)} (hu:P.underlying t=some (.interface ms)) (v:Value) (b:Bool) (h:(v = .nilIface∧b=true)∨(∃t' x,v = .iface t' x)∧b=false):(Op.equalIn 10000 t v .nilIface).run P w = .ok b w:=by
 unfold Op.equalIn
 simp only[Sem.run_bind,run_underlying hu,Result.andThen_ok]
 rcases h with⟨rfl,rfl⟩|⟨⟨t',x,rfl⟩,rfl⟩<;>rfl
theorem b9f (hE:EnvOk E N) (nm:Names vs (wh vs ops)) (ho:ops[j]? = some o) (hf:FI N w G st a vs (wh vs ops)) {op:BinOp} {t t':TypeId} {x y:Operand} {px:PX} {kd:Nat} (cP:o.op = .binOp op t x y t')
  (ge:op = .eql∨op = .neq) (ht:KV P t y=some kd) (hx:cx E vs ops x=some px) {cf:wm} (hs:wi cf (.isnil kd (op == .neq) px) st=some (u,st1)) (hk:wy N w G a st1 u vs ops j o next):o.wp P a w next Q:=by
 simp only[wi,ab,ae,ac] at hs
 obtain⟨b,⟨p,hp,hb⟩,rfl,rfl⟩:=hs
 have hv:=(wL hE hx hf hp).1
 refine wM nm ho hf ?_ (SR.of_pure (.bool _) rfl) hk
 have i7:∀v c:Value,(∀cs,v≠.agg cs)→v≠.nilIface→(eqGuard op t x y v c).run P w = .ok () w:=by
  intro v c h1 h2
  rcases ge with rfl|rfl<;>cases v<;>cases c<;>first|rfl|exact absurd rfl h2|exact absurd rfl (h1 _)
 have key:(do eqGuard op t x y (a.eval x) (a.eval y); binOp op t (a.eval x) (a.eval y):Sem Value).run P w = .ok (.bool (if op == .neq then !b else b)) w:=by
  unfold KV at ht
  split at ht<;>simp only[aa,reduceCtorEq] at ht<;>subst ht
  ·rename_i hu
   have dl:∃ad l c,a.eval x = .slice ad l c∧ad.isNone=b:=by
    generalize a.eval x=v at hv
    unfold CD at hb
    split at hb<;>simp only[aa,reduceCtorEq] at hb<;>subst hb<;>(try (rename_i h0; simp at h0))<;>cases hv<;>first|exact⟨_,_,_,rfl,rfl⟩|simp_all
   obtain⟨ad,l,c,eB,rfl⟩:=dl
   rw[eB]
   exact IC (c26 hu ad l c) op ge x _ (i7 _ _ (by simp) (by simp)) rfl rfl
  ·rename_i hu
   have dl:∃ad,a.eval x = .pointer ad∧ad.isNone=b:=by
    generalize a.eval x=v at hv
    unfold CD at hb
    split at hb<;>simp only[aa,reduceCtorEq] at hb<;>subst hb<;>(try (rename_i h0; simp at h0))<;>cases hv<;>exact⟨_,rfl,rfl⟩
   obtain⟨ad,eB,rfl⟩:=dl
   rw[eB]
   exact IC (c8h hu ad) op ge x _ (i7 _ _ (by simp) (by simp)) rfl rfl
  ·rename_i hu
   have dl:∃ad,a.eval x = .map ad∧ad.isNone=b:=by
    generalize a.eval x=v at hv
    unfold CD at hb
    split at hb<;>simp only[aa,reduceCtorEq] at hb<;>subst hb<;>(try (rename_i h0; simp at h0))<;>cases hv<;>exact⟨_,rfl,rfl⟩
   obtain⟨ad,eB,rfl⟩:=dl
   rw[eB]
   exact IC (c8i hu ad) op ge x _ (i7 _ _ (by simp) (by simp)) rfl rfl
  ·rename_i hu
   have dl:(a.eval x = .nilIface∧b=true)∨(∃t' z,a.eval x = .iface t' z)∧b=false:=by
    generalize a.eval x=v at hv
    unfold CD at hb
    split at hb<;>simp only[aa,reduceCtorEq] at hb<;>subst hb<;>(try (rename_i h0; simp at h0))<;>cases hv<;>first|exact .inl ⟨rfl,rfl⟩|exact .inr ⟨⟨_,_,rfl⟩,rfl⟩
   have hg:(eqGuard op t x (.const .nilIface) (a.eval x) .nilIface).run P w = .ok () w:=by
    rcases dl with⟨h,_⟩|⟨⟨t',z,h⟩,_⟩<;>rw[h]<;>rcases ge with rfl|rfl<;>simp[eqGuard]
   have he:=c27 (P:=P) (w:=w) hu _ _ dl
   refine IC he op ge x _ hg ?_ ?_<;>(rcases dl with⟨h,_⟩|⟨⟨t',z,h⟩,_⟩<;>rw[h]<;>rfl)
 simp only[execOp,cP,Sem.run_bind,key,Result.andThen_ok,Sem.run_pure]
theorem b9g (hE:EnvOk E N) (nm:Names vs (wh vs ops)) (ho:ops[j]? = some o) (hf:FI N w G st a vs (wh vs ops)) {t:TypeId} {n:Nat} {x:Operand} {px:PX} (cP:o.op = .load t x) (hn:wI P t=some n)
  (hx:cx E vs ops x=some px) {cf:wm} (hs:wi cf (.loadc n (wW P t) px) st=some (u,st1)) (hk:wy N w G a st1 u vs ops j o next):o.wp P a w next Q:=by
 simp only[wi] at hs
 split at hs
 ·rename_i cs ha
  simp only[ab,ac] at hs
  obtain⟨r,hr,rfl,rfl⟩:=hs
  obtain⟨r',h1,h2,h3⟩:=LN (P:=P) hn (wL hE hx hf ha).1 hr
  exact wM nm ho hf (by simp[execOp,cP,h1]) (SR.of_pure h2 h3) hk
 ·simp at hs
theorem b7X (hE:EnvOk E N) (nm:Names vs (wh vs ops)) (ho:ops[j]? = some o) (hf:FI N w G st a vs (wh vs ops)) {x:Operand} {px:PX} (cP:o.op = .nilCheck x)
  (hx:cx E vs ops x=some px) {cf:wm} (hs:wi cf (.nilchk px) st=some (u,st1)) (hk:wy N w G a st1 u vs ops j o next):o.wp P a w next Q:=by
 have run:∀ad,a.eval x = .pointer (some ad)→(execOp a.eval o).run P w = .ok (.value (.pointer (some ad))) w:=by
  intro ad h
  simp[execOp,cP,h]
 simp only[wi] at hs
 split at hs
 ·rename_i n off ha
  simp only[aa,ac] at hs
  obtain⟨rfl,rfl⟩:=hs
  obtain⟨b,hv,hb⟩:=Gq hE hx hf ha
  exact wM nm ho hf (run _ hv) (SR.of_pure (.ptr _ _ b hb) rfl) hk
 ·rename_i cs ha
  simp only[aa,ac] at hs
  obtain⟨rfl,rfl⟩:=hs
  rcases Bn hE hx hf ha with⟨_,_,_,_,h,_⟩|⟨h,_⟩
  ·simp at h
  ·generalize hv:a.eval x=v at h
   have h':=h
   cases h with
   | cptr b off _ cv _ _ _=>exact wM nm ho hf (run _ hv) (SR.of_pure h' rfl) hk
 ·rename_i s g off ha
  simp only[aa,ac] at hs
  obtain⟨rfl,rfl⟩:=hs
  rcases Bn hE hx hf ha with⟨_,_,_,b,h,hv,hb⟩|⟨_,h⟩
  ·simp only[PV.lptr.injEq] at h
   obtain⟨rfl,rfl,rfl⟩:=h
   exact wM nm ho hf (run _ hv) (SR.lptr rfl hb) hk
  ·simp[cp] at h
 ·simp at hs
theorem c1h (hE:EnvOk E N) (nm:Names vs (wh vs ops)) (ho:ops[j]? = some o) (hf:FI N w G st a vs (wh vs ops)) {t e:TypeId} {n size:Nat} {parts:Array (Nat×Operand)} {z:List PV} {ps:List (Nat×Nat×PX)}
  (cP:o.op = .build t parts) (hu:P.underlying t=some (.array n e)) (hn:wI P e=some size) (hz:xE P t=some z)
  (hc:Ca E vs ops (λi=>some (i*size,size)) parts.toList=some ps) {cf:wm} (hs:wi cf (.barr z ps) st=some (u,st1)) (hk:wy N w G a st1 u vs ops j o next):o.wp P a w next Q:=by
 simp only[wi,ab,ae,ac] at hs
 obtain⟨rs,⟨qs,hq,wG⟩,rfl,rfl⟩:=hs
 obtain⟨i,zv,hi,iG,_,_,hR,hO⟩:=BL (N:=N) (w:=w) (fix:=G.fix) (hp:=G.heap) hz
 obtain⟨ie,d,ov,cV,_,_⟩:=yD hn
 obtain⟨ds,h1,h2,h3⟩:=LR hE hf hc hq wG hR hO
 refine wM nm ho hf (v := .agg ds) ?_ (SR.of_pure (by simpa using h2.agg h3) rfl) hk
 have hb:P.built t (parts.map λ(i,x)=>(i,a.eval x)).toList=some ds:=by
  simp only[Program.built,hi,hu,iG,ov,cV]
  simpa using h1
 simp[execOp,cP,run_build w t _ ds hb]
theorem c1j (hE:EnvOk E N) (nm:Names vs (wh vs ops)) (ho:ops[j]? = some o) (hf:FI N w G st a vs (wh vs ops)) {t e:TypeId} {len n:Nat} {x i:Operand} {px pi:PX} (cP:o.op = .index t x i)
  (hu:P.underlying t=some (.array len e)) (hn:wI P e=some n) (hx:cx E vs ops x=some px) (hi:cx E vs ops i=some pi) {cf:wm}
  (hs:wi cf (.idxA len n (wW P e) px pi) st=some (u,st1)) (hk:wy N w G a st1 u vs ops j o next):o.wp P a w next Q:=by
 have eI:n≠0:=by obtain⟨_,_,_,_,h,_⟩:=yD hn; exact h
 simp only[wi] at hs
 split at hs
 ·rename_i ps k dT iw
  split at hs
  ·rename_i ey
   simp only[ab,ac] at hs
   obtain⟨r,hr,rfl,rfl⟩:=hs
   obtain⟨cs,hv,hR⟩:=CellsR.of_agg (wL hE hx hf dT).1
   obtain⟨kk,fT⟩:=A9 hE hi hf iw
   obtain⟨h1,h2,h3⟩:=C6 hR hr eI (BE hn)
   refine wM nm ho hf ?_ (SR.of_pure h2 h3) hk
   have hx:(part e cs (k.toNat*n)).run P w = .ok (if wW P e then .agg ((cs.toList.drop (k.toNat*n)).take n).toArray else(cs.toList.drop (k.toNat*n)).headD undef) w:=by
    simp only[part,Sem.run_bind,Dd hn,Sem.run_ite,zu hn,Result.andThen_ok,Sem.run_pure]
    by_cases ha:wW P e=true
    ·simp only[ha,if_true]
     congr 2
     apply Array.ext'
     simp
    ·simp only[Bool.not_eq_true] at ha
     have cS:k.toNat*n<cs.size:=by simp at h1; omega
     simp[ha,aZ (l:=cs.toList) (i:=k.toNat*n) (by simpa using cS),cS]
   simp[execOp,cP,Instr.index,fT,asIntOf,run_underlying hu,hv,ey,zu hn,hx]
  ·simp at hs
 ·simp at hs
end
end PI
