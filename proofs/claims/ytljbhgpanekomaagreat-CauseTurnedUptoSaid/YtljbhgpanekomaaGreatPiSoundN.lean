import Derived.Test.YtljbhgpanekomaaGreatPiComp
import Derived.Laws.MakeOwn
import Derived.Laws.RangeString
import Derived.Orders
import Derived.LoopN
import Derived.RangeFuncLeaves
import Derived.RangeFuncIn
import Derived.LoopNIn
import Derived.OrdersIn
import Derived.BigRegion
import Derived.RangeFuncRecord
import Derived.Test.YtljbhgpanekomaaGreatPiBase
set_option maxRecDepth 100000
set_option linter.unusedSimpArgs false
set_option linter.unusedVariables false
set_option linter.unusedSectionVars false
namespace PI
open Go
section
variable {E:Env} {N:Nm} {w:World} {G:GS} {st:St} {a:Act} {vs:List Tmp} {ops:List Oper} {P:Program}
variable {o:Oper} {j:Nat} {next:Act→World→Prop} {Q:Exit→Act→World→Prop} {u:PV} {st1:St}
theorem KL {α:Type} (l:List α):∀(n k:Nat),(List.replicate n l).flatten[k]? = if k<n*l.length then l[k % l.length]? else none
 | 0,k=>by simp
 | n + 1, k => by
   have ih:=KL l n (k - l.length)
   have e:(n+1)*l.length=n*l.length+l.length:=Nat.succ_mul _ _
   rw[List.replicate_succ,List.flatten_cons,List.getElem?_append,ih,e]
   by_cases hk:k<l.length
   ·have:k<n*l.length+l.length:=by omega
    simp only[hk,this,Nat.mod_eq_of_lt hk,if_true]
   ·have hm:(k - l.length) % l.length=k % l.length:=(Nat.mod_eq_sub_mod (by omega)).symm
    by_cases h2:k - l.length<n*l.length
    ·have:k<n*l.length+l.length:=by omega
     simp only[hk,h2,this,if_true,if_false,hm]
    ·have:¬k<n*l.length+l.length:=by omega
     simp only[hk,h2,this,if_false]
theorem US {x y:Operand} (h:Ip x y=true) {k:IntKind} {n:Int} (hx:a.eval x = .int k n):∃k',a.eval y = .int k' n:=by
 unfold Ip at h
 split at h
 ·simp at h; subst h; exact⟨k,hx⟩
 ·simp at h; subst h
  simp only[Act.eval] at hx ⊢
  cases hx
  exact⟨_,rfl⟩
 ·simp at h
theorem b9V (hE:EnvOk E N) (nm:Names vs (x7 vs ops)) (ho:ops[j]? = some o) (hf:FI N w G st a vs (x7 vs ops)) {t e:TypeId} {l c:Operand} {px:PX} {size:Nat} {z:List PV} (cW:o.op = .makeSlice t l c)
  (hu:P.underlying t=some (.slice e)) (hn:yN P e=some size) (hz:zV P e=some z) (dz:Ip l c=true) (hx:cx E vs ops l=some px) {cf:yg} (hs:x9 cf (.mkarr size (yY P e) (P.bytesOf e) z px) st=some (u,st1)) (hk:yz N w G a st1 u vs ops j o next):o.wp P a w next Q:=by
 simp only[x9] at hs
 split at hs
 ·rename_i n eW
  split at hs
  ·rename_i hc
   obtain⟨h0,hb,hm⟩:=hc
   simp only[aa,ac] at hs
   obtain⟨rfl,rfl⟩:=hs
   obtain⟨k,hl⟩:=Ex hE hx hf eW
   obtain⟨k',oa⟩:=US dz hl
   obtain⟨i,d,hi,gG,fV,hd⟩:=A8 hn
   obtain⟨i2,zv,eH,jN,_,ka,gz,_⟩:=D5 (N:=N) (w:=w) (fix:=G.fix) (hp:=G.heap) hz
   have:i2=i:=by rw[hi] at eH; simpa using eH.symm
   subst this
   subst gG
   have ia:zv.cells.size=i2.size:=by have:=gz.1; simp at this; omega
   have gX:P.bytesOf e=i2.bytes:=by simp[Program.bytesOf,hi]
   rw[gX] at hb
   have cT:=run_make (P:=P) w t e i2 zv hu hi jN k k' n n h0 (Int.le_refl _) hb hm
   refine IJ (mob := .cells (madeCells zv.cells (n.toNat*i2.size)) e) (v := .slice (some ⟨w.heap.size,0,none⟩) n.toNat n.toNat) nm ho hf ?_ ?_ (λG' hG cR=>KG hf ?_ ?_ hG cR) hk
   ·simp[execOp,cW,hl,oa,cT]
   ·rintro G' rfl
    refine .rowp _ _ _ _ w.heap.size _ (by simp[GS.more]) (an _) ⟨e,n.toNat*i2.size,?_,an _⟩
    simp only[World.shape?,C3,size_madeCells]
   ·intro k c x hc hx
    rw[KL] at hx
    have fZ:z.length=i2.size:=by have:=gz.1; simp at this; omega
    rw[fZ] at hx
    split at hx
    ·rename_i cV
     have iL:k % i2.size<i2.size:=bP _ (by omega)
     have gO:c=zv.cells[k % i2.size]! := by
      simp only[madeCells,cA,ab] at hc
      obtain⟨a',ha,rfl⟩:=hc
      have:a'=k:=by
       obtain⟨h1,h2⟩:=aZ.1 ha
       simpa using h2.symm
      rw[this,ia]
     have m7:zv.cells[k % i2.size]? = some c:=by
      rw[gO]
      have:k % i2.size<zv.cells.size:=by omega
      simp[this]
     refine⟨gz.2.2 _ c x (by simpa using m7) hx,gz.2.1 x (ax hx),?_⟩
     rintro es rfl
     have iH:=hz
     unfold zV at iH
     simp only[hi,jN,aj] at iH
     obtain⟨cs',dS,iH⟩:=iH
     split at iH
     ·simp at iH; subst iH
      exact GD dS _ c es (by simpa using m7) hx
     ·simp at iH
    ·simp at hx
   ·have fZ:z.length=i2.size:=by have:=gz.1; simp at this; omega
    rw[size_madeCells]
    simp[List.length_flatten,fZ]
  ·simp at hs
 ·simp at hs
theorem OZ {size:Nat}:∀{xs:List PV},(∀e∈xs,e.cells.length=size)→(xs.flatMap PV.cells).length=xs.length*size∧∀(i:Nat) (e:PV),xs[i]? = some e→∀k,k<size→(xs.flatMap PV.cells)[i*size+k]? = e.cells[k]?
 | [],_=>by simp
 | x :: xs, h => by
   obtain⟨h1,h2⟩:=OZ (xs:=xs) (λe he=>h e (bl _ he))
   have hx:=h x (bS ..)
   refine⟨by simp only[aM,ap,h1,hx,aB,aQ,Nat.one_mul]; omega,?_⟩
   intro i e he k hk
   rw[aM]
   cases i with
   | zero =>
     simp at he; subst he
     rw[Nat.zero_mul,aS,al (by omega)]
   | succ i =>
     rw[aQ,Nat.one_mul,aq (by omega),hx]
     have:=h2 i e (by simpa using he) k hk
     rw[show i*size+size+k - size=i*size+k by omega]
     exact this
theorem b6F (hE:EnvOk E N) (nm:Names vs (x7 vs ops)) (ho:ops[j]? = some o) (hf:FI N w G st a vs (x7 vs ops)) {t e:TypeId} {l c:Operand} {px:PX} {size:Nat} {z:List PV} (cW:o.op = .makeSlice t l c)
  (hu:P.underlying t=some (.slice e)) (hn:yN P e=some size) (hz:zV P e=some z) (dz:Ip l c=true) (hx:cx E vs ops l=some px) {cf:yg} (hs:x9 cf (.mkfresh size (yY P e) (P.bytesOf e) z px) st=some (u,st1)) (hk:yz N w G a st1 u vs ops j o next):o.wp P a w next Q:=by
 simp only[x9] at hs
 split at hs
 ·rename_i n eW
  split at hs
  ·rename_i hc
   obtain⟨h0,hb,hm⟩:=hc
   simp only[aa,ac] at hs
   obtain⟨rfl,rfl⟩:=hs
   obtain⟨k,hl⟩:=Ex hE hx hf eW
   obtain⟨k',oa⟩:=US dz hl
   obtain⟨i,d,hi,gG,fV,hd⟩:=A8 hn
   obtain⟨i2,zv,eH,jN,_,ka,gz,_⟩:=D5 (N:=N) (w:=w) (fix:=G.fix) (hp:=G.heap) hz
   have:i2=i:=by rw[hi] at eH; simpa using eH.symm
   subst this
   subst gG
   have ia:zv.cells.size=i2.size:=by have:=gz.1; simp at this; omega
   have gX:P.bytesOf e=i2.bytes:=by simp[Program.bytesOf,hi]
   rw[gX] at hb
   have cT:=run_make (P:=P) w t e i2 zv hu hi jN k k' n n h0 (Int.le_refl _) hb hm
   let key:Key:=Ai (yF vs o.dst) j
   let mob:Obj := .cells (madeCells zv.cells (n.toNat*i2.size)) e
   let G':GS:={ G with ow:=λx=>if x=w.heap.size then some key else G.ow x }
   have cR:Ext w G (w.alloc mob) G':=by
    refine⟨rfl,rfl,rfl,by simp,λb hb _=>Ax hb,λb o h=>⟨h,Fa (hf.fixlt _ _ h)⟩,λ_ _ h => .inl h,?_,λ_ _ h=>h,.same λk hk=>Ax hk,rfl⟩
    intro b hb
    by_cases cV:b<w.heap.size
    ·refine .inr ?_
     simp only[G'] at hb
     rw[ae (by omega)] at hb
     exact hb
    ·exact .inl (by omega)
   have cU:zo (λ_=>False) w G (w.alloc mob) G':=by
    refine⟨?_,λ_ _ h=>h⟩
    intro b k hb _
    have cV:=hf.owlt _ _ hb
    refine⟨?_,Ax cV,λ_ h=>h⟩
    simp only[G']
    rw[ae (by omega)]; exact hb
   have dt:FI N (w.alloc mob) G' st a vs (x7 vs ops):=hf.ext cR cU hf.gen (by
    intro b k hb
    simp only[G'] at hb
    split at hb
    ·show _<(w.alloc mob).heap.size
     simp; omega
    ·have:=hf.owlt _ _ hb
     show _<(w.alloc mob).heap.size
     simp; omega) (by intro b o h; have:=hf.fixlt _ _ h; show _<(w.alloc mob).heap.size; simp; omega)
   unfold Oper.wp
   have hr:(execOp a.eval o).run P w = .ok (.value (.slice (some ⟨w.heap.size,0,none⟩) n.toNat n.toNat)) (w.alloc mob):=by simp[execOp,cW,hl,oa,cT,mob]
   rw[hr]
   refine hk _ _ G' (dt.put nm (BJ ho) ?_) cR (BK _ _ _)
   have fZ:z.length=i2.size:=by have:=gz.1; simp at this; omega
   refine⟨w.heap.size,rfl,by simp[G',key],λo h=>by have:=hf.fixlt _ _ h; omega,_,e,C3,?_,by rw[size_madeCells]; exact an _,?_⟩
   ·rw[size_madeCells]; simp[fZ]
   ·intro k c x hc hx
    rw[KL] at hx
    rw[aG,fZ] at hx
    split at hx
    ·rename_i cV
     have iL:k % i2.size<i2.size:=bP _ (by omega)
     rw[aF,ab] at hx
     obtain⟨y,hy,rfl⟩:=hx
     have gO:c=zv.cells[k % i2.size]! := by
      simp only[madeCells,cA,ab] at hc
      obtain⟨a',ha,rfl⟩:=hc
      have:a'=k:=by
       obtain⟨h1,h2⟩:=aZ.1 ha
       simpa using h2.symm
      rw[this,ia]
     have m7:zv.cells[k % i2.size]? = some c:=by
      rw[gO]
      have:k % i2.size<zv.cells.size:=by omega
      simp[this]
     have fG:=gz.2.1 y (ax hy)
     refine⟨((gz.2.2 _ c y (by simpa using m7) hy).dem).ext cR,by cases y<;>simp_all [dem,PV.flat],?_⟩
     rintro es he
     cases y<;>simp[dem] at he
    ·simp at hx
  ·simp at hs
 ·simp at hs
theorem FI.adopt {j':Nat} {t':Tmp} {sz len:Nat} {agg:Bool} {cs:List PV} (hf:FI N w G st a vs (x7 vs ops)) (nm:Names vs (x7 vs ops)) (hj:x7 vs ops j'=some t') (hs:st.locs[j']? = some (.fresh sz agg len cs)):
  ∃G',FI N w G' { st with locs:=st.locs.set j' (.rowp st.heap.length sz agg len),heap:=st.heap++[.cells cs] } a vs (x7 vs ops)∧Ext w G w G':=by
 obtain⟨b,hv,dO,rS,cv,T,hh,hl,cS,oa⟩:=hf.loc j' t' _ hj hs
 have gf:=hf.owlt _ _ dO
 let G':GS:=G.more b st.heap.length
 have cR:Ext w G w G':=by
  refine⟨rfl,rfl,rfl,an _,λ_ _ _=>rfl,λb o h=>⟨h,rfl⟩,λ_ _ h => .inl h,?_,?_,.same λk hk=>rfl,rfl⟩
  ·intro x hx
   refine .inr ?_
   simp only[G',GS.more] at hx
   by_cases ik:x=b
   ·subst ik; rw[dO]; simp
   ·rw[ae ik] at hx; exact hx
  ·intro n x h
   have:=hf.hdom _ _ h
   simp only[G',GS.more]
   rw[ae (by omega)]; exact h
 have cU:zo (λk=>k = .loc j') w G w G':=by
  refine⟨?_,λ_ _ h=>h⟩
  intro x k hx da
  refine⟨?_,rfl,λ_ h=>h⟩
  simp only[G',GS.more]
  rw[ae]
  ·exact hx
  ·rintro rfl
   rw[dO] at hx
   cases hx
   exact da rfl
 refine⟨G',⟨hf.len,λi t u h1 h2=>(hf.var i t u h1 h2).keep cR cU (by simp) (by simp),?_,hf.tv,hf.tl,hf.defers,hf.gen,?_,hf.fixlt,?_,?_⟩,cR⟩
 ·intro i t u h1 h2
  rw[aU] at h2
  split at h2
  ·rename_i hi
   subst hi
   split at h2
   ·simp only[aa] at h2
    subst h2
    have:t=t':=by rw[hj] at h1; simpa using h1.symm
    subst this
    rw[hv]
    refine SR.of_pure (.rowp _ _ _ _ b _ (by simp[G',GS.more]) (an _) ⟨T,cv.size,?_,cS⟩) rfl
    simp[World.shape?,hh]
   ·simp at h2
  ·rename_i hi
   exact(hf.loc i t u h1 h2).keep cR cU (by simp; omega) (by simp)
 ·intro x k hx
  simp only[G',GS.more] at hx
  split at hx
  ·subst_vars; exact gf
  ·exact hf.owlt _ _ hx
 ·refine hf.heap.push cR cU (λ_ _ _ => .inr ⟨by simp,by simp⟩) (.inr ⟨b,by simp[G',GS.more],by simp[G',GS.more],rS,cv,T,hh,hl,?_⟩)
  intro k c x hc hx
  obtain⟨k1,k2,k3⟩:=oa k c x hc hx
  refine⟨k1.ext cR,k2,?_⟩
  split
  ·exact absurd rfl (k3 _)
  ·trivial
 ·intro n x h
  simp only[G',GS.more] at h
  simp only[ap,cL]
  split at h
  ·omega
  ·have:=hf.hdom _ _ h; omega
theorem FI.adoptAll (nm:Names vs (x7 vs ops)):∀{js:List Nat} {G:GS} {st st':St},FI N w G st a vs (x7 vs ops)→(∀j∈js,∃t,x7 vs ops j=some t)→PI.adoptAll js st=some st'→∃G',FI N w G' st' a vs (x7 vs ops)∧Ext w G w G'
 | [], G, st, st', hf, _, h => by
   simp only[PI.adoptAll,aa] at h; subst h
   exact⟨G,hf,Ext.refl _ _⟩
 | j :: js, G, st, st', hf, hl, h => by
   simp only[PI.adoptAll] at h
   split at h
   ·rename_i sz agg len cs hs
    obtain⟨t,ht⟩:=hl j (by simp)
    obtain⟨G1,dt,e1⟩:=hf.adopt nm ht hs
    obtain⟨G2,jm,e2⟩:=FI.adoptAll nm dt (λj' lK=>hl j' (by simp[lK])) h
    exact⟨G2,jm,e1.trans e2⟩
   ·simp at h
theorem d3l {t:Tmp} {j:Nat} (h:cx E vs ops (.tmp t)=some (.l j)):∃t,x7 vs ops j=some t:=by
 simp only[cx] at h
 split at h
 ·simp at h
 ·rename_i hi
  cases hd:Gl t ops 0 with
  | none=>rw[hd] at h; simp at h
  | some k =>
    rw[hd] at h
    simp only[aH,aa,PX.l.injEq] at h
    subst h
    obtain⟨_,o',h2,h3⟩:=OC hd
    simp only[Nat.sub_zero] at h2
    exact⟨t,by simp[x7,h2,h3,hi]⟩
theorem b8y (hE:EnvOk E N) (nm:Names vs (x7 vs ops)) (ho:ops[j]? = some o) (hf:FI N w G st a vs (x7 vs ops)) {t:TypeId} {parts:Array (Nat×Operand)} {fs:Array Field} {places:List (Nat×Nat)} {z:List PV} {ps:List (Nat×Nat×PX)} {js:List Nat}
  (cW:o.op = .build t parts) (hu:P.underlying t=some (.struct fs)) (hz:zV P t=some z) (fH:fs.toList.mapM (λf=>(P.info? f.type).map λi=>(f.offset,i.size))=some places) (hj:∀j∈js,∃t,x7 vs ops j=some t)
  (hc:E8 E vs ops (places.toArray[·]?) parts.toList=some ps) {cf:yg} (hs:x9 cf (.buildA js z ps) st=some (u,st1)) (hk:yz N w G a st1 u vs ops j o next):o.wp P a w next Q:=by
 simp only[x9,aj] at hs
 obtain⟨st0,ha,hb⟩:=hs
 obtain⟨G',iy,cR⟩:=FI.adoptAll nm hf hj ha
 refine Ut (cf:=cf) hE nm ho iy cW hu hz fH hc ?_ (u:=u) (st1:=st1) ?_
 ·simp only[opv]
  exact hb
 ·intro a' w' G2 h1 h2 h3
  exact hk a' w' G2 h1 (cR.trans h2) h3
theorem b9W (hE:EnvOk E N) (nm:Names vs (x7 vs ops)) (ho:ops[j]? = some o) (hf:FI N w G st a vs (x7 vs ops)) {t:TypeId} {n:Nat} {x:Operand} {px:PX} (cW:o.op = .load t x) (hn:yN P t=some n) (pg:yY P t=false)
  (hx:cx E vs ops x=some px) {cf:yg} (hs:x9 cf (.loadn px) st=some (u,st1)) (hk:yz N w G a st1 u vs ops j o next):o.wp P a w next Q:=by
 have fV:=hs
 simp only[x9] at hs
 split at hs
 ·rename_i m off ha
  simp only[aj] at hs
  obtain⟨cs,hg,hs⟩:=hs
  split at hs
  ·rename_i es hcell
   refine UF (tk:=true) (cf:=cf) hE nm ho hf cW hn hx ?_ hk
   simp only[x9,ha,hg,aw,pg,Bool.not_false,bu,hcell]
   exact hs
  ·rename_i hcell
   simp only[aa,ac] at hs
   obtain⟨rfl,rfl⟩:=hs
   obtain⟨b,hv,hb⟩:=KH hE hx hf ha
   obtain⟨eJ,gM,cv,T,hh,hl,hc⟩:=FQ hf hg hb
   have cV:off<cv.size:=by have:=(ah.1 hcell).1; omega
   have cZ:=(hc off cv[off] _ (by simp[cV]) hcell).1
   have jy:cv[off] = .slice none 0 0:=by
    generalize cv[off]=c at cZ
    cases cZ; rfl
   have cT:(execOp a.eval o).run P w = .ok (.value (.slice none 0 0)) w:=by
    have dA:w.cell? ⟨b,off,none⟩=some (.slice none 0 0):=by simp[World.cell?,hh,cV,jy]
    simp[execOp,cW,hv,Instr.loadAt,Instr.sureAddr,loadVar,GE hn,pg,dA]
   have rc:SR N w G (Ai (yF vs o.dst) j) (.slice none 0 0) (.list true []):=⟨.nils true,by simp[Room]⟩
   exact yJ nm ho hf cT rc hk
  ·simp at hs
 ·simp at hs
theorem b9X (hE:EnvOk E N) (nm:Names vs (x7 vs ops)) (ho:ops[j]? = some o) (hf:FI N w G st a vs (x7 vs ops)) {t e:TypeId} {len size:Nat} {parts:Array (Nat×Operand)} {z:List PV} {ps:List (Nat×PX)}
  (cW:o.op = .buildSlice t len parts) (hu:P.underlying t=some (.slice e)) (hn:yN P e=some size) (hz:zV P e=some z) (cS:len*size≤16777216) (hc:Et E vs ops parts.toList=some ps) {cf:yg}
  (hs:x9 cf (.mkrow size (yY P e) (if yY P e then .agg z else z.headD .dead) len ps) st=some (u,st1)) (hk:yz N w G a st1 u vs ops j o next):o.wp P a w next Q:=by
 simp only[x9,ab,aj,ac] at hs
 obtain⟨rs,⟨qs,hq,yw⟩,rfl,rfl⟩:=hs
 obtain⟨ds,hR,cT⟩:=Uy hE hf cW hu hn hz cS hc hq yw
 obtain⟨f1,f2⟩:=OZ (size:=size) (xs:=rs) (λx hx=>by
  obtain⟨i,hi⟩:=bj.1 hx
  exact(hR.2 i x hi).1)
 obtain⟨_,_,_,_,fV,_⟩:=A8 hn
 refine IJ (mob := .cells ds e) (v := .slice (some ⟨w.heap.size,0,none⟩) rs.length rs.length) nm ho hf cT ?_ (λG' hG cR=>KG hf ?_ ?_ hG cR) hk
 ·rintro G' rfl
  refine .rowp _ _ _ _ w.heap.size _ (by simp[GS.more]) (an _) ⟨e,rs.length*size,?_,an _⟩
  simp only[World.shape?,C3,hR.1]
 ·intro k c x q9 hx
  rw[aF,ab] at hx
  obtain⟨y,hy,rfl⟩:=hx
  have eO:k<rs.length*size:=by rw[← f1]; exact(ah.1 hy).1
  have hi:k / size<rs.length:=Nat.div_lt_of_lt_mul (by rw[cC]; exact eO)
  have mH:k / size*size+k % size=k:=by rw[cC]; exact Nat.div_add_mod k size
  have hm:k % size<size:=bP _ (by omega)
  obtain⟨r1,r2,r3⟩:=hR.2 (k / size) _ (am hi)
  have gU:=f2 (k / size) _ (am hi) (k % size) hm
  rw[mH,hy] at gU
  have hv:=r3 (k % size) c y (by rw[mH]; exact q9) gU.symm
  have fG:=r2 y (ax gU.symm)
  refine⟨hv.dem,by cases y<;>simp_all [dem,PV.flat],?_⟩
  rintro es he
  cases y<;>simp[dem] at he
 ·rw[aG,f1,hR.1]
theorem ListR.flats {fix:Nat→Nat→Prop} {hp:Nat→Option Nat} {size:Nat} {news:List Value} {xs:List PV} (h:ListR N w fix hp size news xs) (hs:size≠0):
  news.length=((xs.flatMap PV.cells).map dem).length∧∀(k:Nat) (c:Value) (x:PV),news[k]? = some c→((xs.flatMap PV.cells).map dem)[k]? = some x→VR N w fix hp c x∧x.flat=true∧∀es,x≠.list true es:=by
 obtain⟨h1,h2⟩:=OZ h.sz
 refine⟨by rw[aG,h1,h.len],?_⟩
 intro k c x hc hx
 simp only[aF,ab] at hx
 obtain⟨y,hy,rfl⟩:=hx
 have hk:k<xs.length*size:=by rw[← h1]; exact(ah.1 hy).1
 have hi:k / size<xs.length:=by rw[Nat.div_lt_iff_lt_mul (by omega)]; exact hk
 have hm:k % size<size:=bP _ (by omega)
 have he:k / size*size+k % size=k:=by rw[cC]; exact Nat.div_add_mod k size
 have h3:=h2 (k / size) xs[k / size] (am hi) (k % size) hm
 rw[he,hy] at h3
 refine⟨(h.vr (k / size) _ (am hi) (k % size) c y (by rw[he]; exact hc) h3.symm).dem,?_,?_⟩
 ·rw[Gz]
  exact h.flat _ (ak hi) y (ax h3.symm)
 ·intro es e; cases y<;>simp[dem] at e
theorem c2d (y:PV) (es:List PV):dem y≠.list true es:=by intro e; cases y<;>simp[dem] at e
theorem JJ {sz:Nat} {agg:Bool} {cs:List PV}:∀{n off:Nat} {es:List PV},Aj sz agg cs n off=some es→es.length=n∧∀(i:Nat) (e:PV),es[i]? = some e→yh sz agg cs (off+i*sz)=some e
 | 0,off,es,h=>by simp[Aj] at h; subst h; simp
 | n + 1, off, es, h => by
   simp only[Aj,aj,ab] at h
   obtain⟨e,h1,es',h2,rfl⟩:=h
   obtain⟨k1,k2⟩:=JJ h2
   refine⟨by simp[k1],?_⟩
   intro i x hx
   cases i with
   | zero=>simp at hx; subst hx; simpa using h1
   | succ i =>
     have:=k2 i x (by simpa using hx)
     rw[aQ]
     simpa[cB,Nat.add_comm,Nat.add_left_comm] using this
theorem b8z {sz len:Nat} {agg:Bool} {cs es:List PV} (fG:∀(k:Nat) (y:PV),cs[k]? = some y→y.flat=true) (dc:agg=true∨sz=1) (he:Aj sz agg cs len 0=some es):
  es.length=len∧∀(i:Nat) (e:PV),es[i]? = some e→i*sz+sz≤cs.length∧e.cells.length=sz∧∀(j:Nat) (x:PV),e.cells[j]? = some x→∃y,cs[i*sz+j]? = some y∧x=dem y∧j<sz:=by
 obtain⟨e1,e2⟩:=JJ he
 refine⟨e1,?_⟩
 intro i e hi
 have:=e2 i e hi
 rw[aS] at this
 unfold yh at this
 split at this
 ·split at this
  ·rename_i ez
   simp only[aa] at this; subst this
   refine⟨ez,by simp[PV.cells]; omega,?_⟩
   intro j x hx
   simp only[PV.cells,aF,ab] at hx
   obtain⟨y,hy,rfl⟩:=hx
   rw[aW] at hy
   split at hy
   ·rw[bi] at hy
    exact⟨y,hy,rfl,by assumption⟩
   ·simp at hy
  ·simp at this
 ·rename_i iP
  have h1:sz=1:=by rcases dc with h|h; exact absurd h (by simpa using iP); exact h
  subst h1
  split at this
  ·rename_i y hy
   have cV:i*1<cs.length:=(ah.1 hy).1
   have fG:=fG _ y hy
   have gc:e=dem y∧y.cells=[y]:=by
    cases y<;>simp_all [cp,dem,PV.cells,PV.flat]
   obtain⟨rfl,_⟩:=gc
   have iA:(dem y).cells=[dem y]:=by cases y<;>simp_all [dem,PV.cells,PV.flat]
   refine⟨by omega,by rw[iA]; rfl,?_⟩
   intro j x hx
   rw[iA] at hx
   cases j with
   | zero=>simp at hx; subst hx; exact⟨y,hy,rfl,by omega⟩
   | succ j=>simp at hx
  ·simp at this
theorem UT {ts tx e ty:TypeId} {size:Nat} {s x:Operand} {base:Option Addr} (hv:a.eval s = .slice base 0 0) (dU:Src P size tx (a.eval x) 0 [] w) (ff:P.underlying ts=some (.slice e)) {i:TypeInfo} (hi:P.info? e=some i) (dc:i.size=size):
  (Builtin.append_ #[ts,tx] ty #[a.eval s,a.eval x]).run P w = .ok (.slice base 0 0) w:=by
 subst dc
 rw[hv]
 rcases dU.kind with⟨e'',dq⟩|dq<;>cases base <;>
  simp[Builtin.append_,run_underlying ff,run_underlying dq,Go.sizeOf,typeInfo,hi,dU.len,dU.cells,storeCells]
def D7 (n n':Nat):Option Key→Option Key
 | some (.hcell m k)=>some (.hcell (if m=n then n' else m) k)
 | o=>o
theorem UU {n n':Nat} {o:Option Key}:D7 n n' o=none↔o=none:=by
 unfold D7; split<;>simp
theorem UV {n n':Nat} {key:Key} (h:∀k,key≠.hcell n k):D7 n n' (some key)=some key:=by
 unfold D7
 split
 ·rename_i m k e
  simp only[aa] at e
  subst e
  rw[ae (λe=>h k (by rw[e]))]
 ·rfl
theorem UW (n n' k:Nat):D7 n n' (some (.hcell n k))=some (.hcell n' k):=by simp[D7]
theorem Room.ren {w w':World} {G G':GS} {n n' k:Nat} {v:Value} {es:List PV} (h:Room w G (.hcell n k) v es) (ho:∀b,G.ow b=some (.hcell n k)→G'.ow b=some (.hcell n' k)∧w'.heap[b]? = w.heap[b]?∧∀o,G'.fix b o→G.fix b o):Room w' G' (.hcell n' k) v es:=by
 unfold Room at *
 split at h
 ·rename_i a len cap
  rcases h with h|⟨h0,sz,cs,T,h1,h2,h3,h4,h5⟩
  ·exact .inl h
  ·obtain⟨k1,k2,k3⟩:=ho _ h0
   exact .inr ⟨k1,sz,cs,T,h1,h2.same k2,h3,h4,λo fX hf=>h5 o fX (k3 o hf)⟩
 ·trivial
theorem CR.pure {N:Nm} {w:World} {G:GS} {key:Key} {v:Value} {p:PV} (h:VR N w G.fix G.heap v p∧p.flat=true∧∀es,p≠.list true es):CR N w G key v p:=by
 refine⟨h.1,h.2.1,?_⟩
 split
 ·exact absurd rfl (h.2.2 _)
 ·trivial
theorem UX (nm:Names vs (x7 vs ops)) (ho:ops[j]? = some o) (hf:FI N w G st a vs (x7 vs ops)) {heap1:List PObj} (ie:HR N w G heap1) (lB:heap1.length=st.heap.length) {v:Value} {CS:Array Value} {e:TypeId} {ps:List PV} {sz len cap:Nat} {agg:Bool} (n0:Nat) (eW:n0<heap1.length→heap1[n0]? = some .gone)
  (cT:(execOp a.eval o).run P w = .ok (.value (.slice (some ⟨w.heap.size,0,none⟩) len cap)) (w.drew.alloc (.cells CS e))) (db:len≤cap) (ur:CS.size=cap*sz) (fo:ps.length≤CS.size)
  (hR:∀(k:Nat) (c:Value) (x:PV),CS[k]? = some c→ps[k]? = some x→CR N w G (.hcell n0 k) c x)
  (hk:yz N w G a { st with heap:=heap1++[.cells ps] } (.rowp st.heap.length sz agg len) vs ops j o next):o.wp P a w next Q:=by
 unfold Oper.wp
 rw[cT]
 let w':World:=w.drew.alloc (.cells CS e)
 let G':GS:={ G with ow:=λx=>if x=w.heap.size then some (.hobj st.heap.length) else D7 n0 st.heap.length (G.ow x),heap:=λm=>if m=st.heap.length then some w.heap.size else G.heap m }
 have cR:Ext w G w' G':=by
  refine⟨rfl,rfl,rfl,by simp[w'],λb hb _=>Ax (w:=w.drew) hb,λb o h=>⟨h,Fa (w:=w.drew) (hf.fixlt _ _ h)⟩,λ_ _ h => .inl h,?_,?_,.same λk hk=>Ax (w:=w.drew) hk,rfl⟩
  ·intro b hb
   by_cases cV:b<w.heap.size
   ·refine .inr ?_
    simp only[G'] at hb
    rw[ae (by omega)] at hb
    exact λh=>hb (UU.2 h)
   ·exact .inl (by omega)
  ·intro n b h
   have:=hf.hdom _ _ h
   simp only[G']
   rw[ae (by omega)]; exact h
 have cU:zo (λkey=>∃k,key = .hcell n0 k) w G w' G':=by
  refine⟨?_,λ_ _ h=>h⟩
  intro b k hb iS
  have cV:=hf.owlt _ _ hb
  refine⟨?_,Ax (w:=w.drew) cV,λ_ h=>h⟩
  simp only[G']
  rw[ae (by omega),hb]; exact UV λi e=>iS ⟨i,e⟩
 have hobj:ObjR N w' G' st.heap.length w.heap.size (.cells ps):=by
  refine⟨λo h=>by have:=hf.fixlt _ _ h; omega,CS,e,C3 (w:=w.drew),fo,?_⟩
  intro k c x hc hx
  obtain⟨h1,h2,h3⟩:=hR k c x hc hx
  refine⟨h1.ext cR,h2,?_⟩
  split
  ·refine Room.ren h3 λb hb =>?_
   have cV:=hf.owlt _ _ hb
   refine⟨?_,Ax (w:=w.drew) cV,λ_ h=>h⟩
   simp only[G']
   rw[ae (by omega),hb]; exact UW _ _ _
  ·trivial
 have dt:FI N w' G' { st with heap:=heap1++[.cells ps] } a vs (x7 vs ops):=by
  refine⟨hf.len,λi t u h1 h2=>(hf.var i t u h1 h2).keep cR cU (by simp) (by simp),λj t u h1 h2=>(hf.loc j t u h1 h2).keep cR cU (by simp) (by simp),hf.tv,hf.tl,(hf.defers.trans cR.df.symm),hf.gen,?_,?_,?_,?_⟩
  ·intro b k hb
   simp only[G'] at hb
   split at hb
   ·simp[w']; omega
   ·cases hx:G.ow b with
    | none=>rw[hx] at hb; simp[D7] at hb
    | some y=>have:=hf.owlt _ _ hx; simp[w']; omega
  ·intro b o h
   have:=hf.fixlt _ _ h; simp[w']; omega
  ·refine ie.push cR cU (λn k hn =>?_) (.inr ⟨w.heap.size,by simp[G',lB],by simp[G',lB],by rw[lB]; exact hobj⟩)
   by_cases e:n=n0
   ·subst e; exact .inl (eW hn)
   ·exact .inr ⟨by simp,by simpa using e⟩
  ·intro n b h
   simp only[G'] at h
   split at h
   ·simp; omega
   ·have:=hf.hdom _ _ h; simp; omega
 refine hk _ w' G' (dt.put nm (BJ ho) (SR.of_pure (.rowp _ _ _ _ w.heap.size cap (by simp[G']) db ⟨e,cap*sz,?_,an _⟩) rfl)) cR (BK _ _ _)
 have h1:w'.heap[w.heap.size]? = some (.cells CS e):=C3 (w:=w.drew)
 simp only[World.shape?,h1,ur]
theorem c2e (hE:EnvOk E N) (nm:Names vs (x7 vs ops)) (ho:ops[j]? = some o) (hf:FI N w G st a vs (x7 vs ops)) {ts tx e e':TypeId} {size:Nat} {z:List PV} {s x:Operand} {ps px:PX}
  (cW:o.op = .call { callee := .builtin .append,args := #[s,x],argTypes := #[ts,tx] }) (ff:P.underlying ts=some (.slice e)) (ii:P.underlying tx=some (.slice e')) (hn:yN P e=some size) (hz:zV P e=some z)
  (jf:cx E vs ops s=some ps) (hx:cx E vs ops x=some px) {cf:yg} (hs:x9 cf (.happ size (yY P e) (P.bytesOf e) ps px) st=some (u,st1)) (hk:yz N w G a st1 u vs ops j o next):o.wp P a w next Q:=by
 obtain⟨i,d,hi,gG,fV,hd⟩:=A8 hn
 obtain⟨i2,zv,eH,jN,_,ka,gz,_⟩:=D5 (N:=N) (w:=w) (fix:=G.fix) (hp:=G.heap) hz
 have:i2=i:=by rw[hi] at eH; simpa using eH.symm
 subst this
 subst gG
 have ia:zv.cells.size=i2.size:=by have:=gz.1; simp at this; omega
 have gX:P.bytesOf e=i2.bytes:=by simp[Program.bytesOf,hi]
 have ip:∀v w',(Builtin.append_ #[ts,tx] o.type #[a.eval s,a.eval x]).run P w = .ok v w'→(execOp a.eval o).run P w = .ok (.value v) w':=by
  intro v w' hr
  simp[execOp,cW,resolve,invoke,builtin,hr]
 have src:∀{xs:List PV},b2U st px=some xs→yU i2.size xs=true→∃news,ListR N w G.fix G.heap i2.size news xs∧Src P i2.size tx (a.eval x) xs.length news w:=by
  intro xs ef hh
  unfold b2U at ef
  split at ef
  ·rename_i n sz agg len ml
   split at ef
   ·rename_i pg
    simp only[aj] at ef
    obtain⟨cs,hg,fI⟩:=ef
    have iM:=(yH hE hx hf ml).1
    generalize hv:a.eval x=v at iM
    cases iM with
    | rowp _ _ _ _ b cap hb db ec =>
      obtain⟨eJ,gM,cv,T,xY,hl,jn⟩:=FQ hf hg hb
      have fG:∀(k:Nat) (y:PV),cs[k]? = some y→y.flat=true:=λk y hy=>by
       have cV:k<cv.size:=by have:=(ah.1 hy).1; omega
       exact(jn k cv[k] y (by simp[cV]) hy).2.1
      obtain⟨e1,e2⟩:=b8z fG pg fI
      by_cases gy:xs=[]
      ·subst gy
       simp only[bo] at e1
       subst e1
       exact⟨[],⟨by simp,by simp,by simp,by simp⟩,Src.ofSlice w ii ⟨b,0,none⟩ 0 cap [] (by simp) (by simp) (by simp)⟩
      ·have dc:sz=i2.size:=by
        cases xs with
        | nil=>exact absurd rfl gy
        | cons y ys =>
          have h1:=(e2 0 y rfl).2.1
          simp[yU] at hh
          omega
       subst dc
       have dr:0<xs.length:=bI.2 gy
       have fU:=(e2 (xs.length - 1) (xs[xs.length - 1]'(by omega)) (am (by omega))).1
       have fN:xs.length*i2.size≤cs.length:=by
        have:xs.length=(xs.length - 1)+1:=by omega
        rw[this,aQ,Nat.one_mul]; exact fU
       let news:=cv.toList.take (xs.length*i2.size)
       have fx:news.length=xs.length*i2.size:=by simp only[news,aY,bp]; omega
       have nO:∀(k:Nat) (u:Value),news[k]? = some u→cv[k]? = some u:=by
        intro k u hu
        simp only[news,aW] at hu
        split at hu
        ·simpa using hu
        ·simp at hu
       have hL:ListR N w G.fix G.heap i2.size news xs:=by
        refine⟨fx,?_,?_,?_⟩
        ·intro e he
         obtain⟨i,hi⟩:=bj.1 he
         exact(e2 i e hi).2.1
        ·intro e he y hy
         obtain⟨i,hi⟩:=bj.1 he
         obtain⟨j,hj⟩:=bj.1 hy
         obtain⟨z,hz,rfl,_⟩:=(e2 i e hi).2.2 j y hj
         rw[Gz]; exact fG _ z hz
        ·intro i e hi k c y hc hy
         obtain⟨z,hz,rfl,_⟩:=(e2 i e hi).2.2 k y hy
         exact(jn _ c z (nO _ _ hc) hz).1.dem
       refine⟨news,hL,?_⟩
       rw[← e1]
       exact Src.ofSlice w ii ⟨b,0,none⟩ xs.length cap news fx (λj u hu=>by
        rw[B5]
        have:=nO j u hu
        simp only[World.cell?,xY,aS]
        simpa using this) (hL.one fV)
   ·simp at ef
  rotate_left
  ·simp at ef
  rename_i p0 _ ml
  have gP:=ef
  clear ef
  have iM:=(yH hE hx hf ml).1.row gP
  obtain⟨news,fT,q9⟩:=OM iM hh
  refine⟨news,fT,?_⟩
  rcases q9 with⟨h1,h2,h3⟩|⟨ad,cap,h1,h2,h3⟩|⟨b,off,cap,h1,h2,h3⟩
  ·rw[h1,h2,h3]; exact Src.ofNil w ii 0
  ·rw[h1,h2,h3]; exact Src.ofSlice w ii ad 0 cap [] (by simp) (by simp) (by simp)
  ·rw[h1]
   exact Src.ofSlice w ii ⟨b,off,none⟩ xs.length cap news fT.len (λj u hu=>by rw[B5]; exact(h3 j u hu).1) (fT.one fV)
 have grow:∀(n0:Nat) {heap1:List PObj} {xs oldps:List PV} {news olds:List Value} {base:Option Addr} {len cap:Nat},(n0<heap1.length→heap1[n0]? = some .gone)→HR N w G heap1→heap1.length=st.heap.length→ListR N w G.fix G.heap i2.size news xs→Src P i2.size tx (a.eval x) xs.length news w→a.eval s = .slice base len cap →
   (Builtin.firstCells i2.size len (.slice base len cap)).run P w.drew = .ok olds.toArray w.drew→olds.length=len*i2.size→oldps.length=olds.length→(∀(k:Nat) (c:Value) (y:PV),olds[k]? = some c→oldps[k]? = some y→CR N w G (.hcell n0 k) c y) →
   cap<len+xs.length→len+xs.length≤2147483648→i2.bytes≤16384 →
   yz N w G a { st with heap:=heap1++[.cells (oldps++(xs.flatMap PV.cells).map dem)] } (.rowp st.heap.length i2.size (yY P e) (len+xs.length)) vs ops j o next→o.wp P a w next Q:=by
  intro n0 heap1 xs oldps news olds base len cap eW ie d8 fT dU hv ke iW oJ xZ db eP dE hk
  have eT:(len+xs.length)*i2.bytes≤140737488355328:=aD (Nat.mul_le_mul eP dE) (by decide)
  have cT:=run_append_grow_src (P:=P) w ts tx o.type e i2 zv ff hi jN base len cap olds ke (a.eval x) xs.length news dU db (by omega) (growslice_fits db eT)
  rw[← hv] at cT
  obtain⟨fG,uD⟩:=fT.flats fV
  have ja:=grownCap_ge w (len+xs.length) cap e
  refine UX (v:=undef) (sz:=i2.size) (cap:=grownCap w (len+xs.length) cap e) nm ho hf ie d8 n0 eW (ip _ _ cT) ja ?_ ?_ ?_ hk
  ·simp only[cM,cj,size_zeroCells,ia,iW,fT.len,ap]
   rw[Nat.sub_mul,aQ]
   have:(len+xs.length)*i2.size≤grownCap w (len+xs.length) cap e*i2.size:=bq _ ja
   rw[aQ] at this
   omega
  ·simp only[cM,cj,ap,oJ]
   omega
  ·intro k c y hc hy
   by_cases eV:k<olds.length
   ·rw[al (by omega)] at hy
    rw[bY (by simp; omega)] at hc
    simp only[bZ] at hc
    rw[al eV] at hc
    exact xZ k c y hc hy
   ·rw[aq (by omega)] at hy
    have cV:k - olds.length<news.length:=by
     rw[fG,← oJ]; exact(ah.1 hy).1
    rw[bY (by simp; omega)] at hc
    simp only[bZ] at hc
    rw[aq (by omega)] at hc
    rw[oJ] at hy
    exact CR.pure (uD _ c y hc hy)
 simp only[x9] at hs
 rw[gX] at hs
 split at hs
 ·rename_i xs n sz ag len ef gF
  split at hs
  ·rename_i cs dO
   split at hs
   ·rename_i hc
    obtain⟨rfl,rfl,dA,fR,eP,dE⟩:=hc
    simp only[aa,ac] at hs
    obtain⟨rfl,rfl⟩:=hs
    obtain⟨news,fT,dU⟩:=src ef fR
    have iC:=((D3 hE jf hf gF).read (r := .rowp n i2.size (yY P e) len) rfl).1
    generalize hv:a.eval s=v at iC
    cases iC with
    | rowp _ _ _ _ b cap hb db ec =>
      obtain⟨T',m,rg,uE⟩:=ec
      obtain⟨eJ,gM,cv,T,hh,hl,jn⟩:=FQ hf (show yC st n=some cs by simp[yC,dO]) hb
      have hm:m=cv.size:=by simp only[World.shape?,hh,aa,ac] at rg; exact rg.2.symm
      subst hm
      have jY:=dA
      obtain⟨O,hO⟩:∃O,cs.take (len*i2.size)=O:=⟨_,rfl⟩
      rw[hO] at hk
      have dA:O.length=len*i2.size:=by rw[← hO]; simp; omega
      have m8:∀(k:Nat) (c:Value) (y:PV),(cv.toList.take (len*i2.size))[k]? = some c→O[k]? = some y→CR N w G (.hcell n k) c y:=by
       intro k c y hc hy
       rw[← hO,aW] at hy
       rw[aW] at hc
       split at hc
       ·rw[ai (by assumption)] at hy
        exact jn k c y (by simpa using hc) hy
       ·simp at hc
      have iW:(cv.toList.take (len*i2.size)).length=len*i2.size:=by simp; omega
      have dB:∀(k:Nat) (u:Value),(cv.toList.take (len*i2.size))[k]? = some u→w.cell? ⟨b,0+k,none⟩=some u:=by
       intro k u hu
       rw[aW] at hu
       split at hu
       ·simp only[World.cell?,hh,aS]; simpa using hu
       ·simp at hu
      by_cases jP:cap<len+xs.length
      ·refine grow n (heap1:=st.heap.set n .gone) (λh=>ar (by simpa using h)) ?_ (by simp) fT dU hv (olds:=cv.toList.take (len*i2.size)) ?_ iW (by rw[dA,iW]) m8 jP eP dE hk
       ·exact hf.heap.keepBut (K:=λ_=>False) (Ext.refl _ _) ⟨λ_ _ h _=>⟨h,rfl,λ_ h=>h⟩,λ_ _ h=>h⟩ (λ_ _ _=>⟨λh=>h,λh=>h⟩) (λ_ => .inl rfl)
       ·exact run_firstCells_some w.drew _ _ _ _ _ _ iW (λk u hu=>by rw[B5]; exact dB k u hu)
      ·
       have ez:len+xs.length≤cap:=by omega
       obtain⟨fG,uD⟩:=fT.flats fV
       have im:len*i2.size+news.length≤cv.size:=by
        rw[fT.len]
        have:(len+xs.length)*i2.size≤cap*i2.size:=bq _ ez
        rw[aQ] at this; omega
       let NR:Array Value:=(cv.toList.take (len*i2.size)++news++cv.toList.drop (len*i2.size+news.length)).toArray
       have kg:NR.size=cv.size:=by simp only[NR,cj,ap,aY,cg,bp]; omega
       have cT:(Builtin.append_ #[ts,tx] o.type #[a.eval s,a.eval x]).run P w = .ok (.slice (some ⟨b,0,none⟩) (len+xs.length) cap) (w.setRow b NR):=by
        have dn:=KC P b (len*i2.size) T (0,0) news 0 cv w hh (λo _ h=>by simp at h) (by simpa using im) (fT.one fV)
        simp only[bw] at dn
        rw[hv]
        rcases dU.kind with⟨e'',dq⟩|dq <;>
         simp[Builtin.append_,run_underlying ff,run_underlying dq,Go.sizeOf,typeInfo,hi,dU.len,ez,dU.cells,B5,dn,NR]
       have gf:b<w.heap.size:=hf.owlt _ _ eJ
       have dj:∀x,x≠b→(w.setRow b NR).heap[x]? = w.heap[x]? := λx hx=>setRow_other w b x _ hx
       let G':GS:={ G with heap:=λm=>if m=st.heap.length then some b else G.heap m,ow:=λx=>if x=b then some (.hobj st.heap.length) else D7 n st.heap.length (G.ow x) }
       have cR:Ext w G (w.setRow b NR) G':=by
        refine⟨rfl,rfl,rfl,by simp[World.setRow],?_,?_,λ_ _ h => .inl h,?_,?_,II hh _ kg,rfl⟩
        ·intro y _ jX
         exact dj y (by rintro rfl; rw[eJ] at jX; simp at jX)
        ·intro y o' gx
         have jQ:y≠b:=by rintro rfl; exact gM _ gx
         exact⟨gx,by simp only[World.cell?,dj y jQ]⟩
        ·intro y hy
         simp only[G'] at hy
         split at hy
         ·rename_i jQ; exact .inr (by rw[jQ,eJ]; simp)
         ·exact .inr λh=>hy (UU.2 h)
        ·intro m y hy
         have:=hf.hdom _ _ hy
         simp only[G']
         rw[ae (by omega)]; exact hy
       have cU:zo (λk=>k = .hobj n∨∃i,k = .hcell n i) w G (w.setRow b NR) G':=by
        refine⟨?_,λ_ _ h=>h⟩
        intro y k hy iS
        have jQ:y≠b:=by rintro rfl; rw[eJ] at hy; simp at hy; exact iS (.inl hy.symm)
        refine⟨?_,dj y jQ,λ_ h=>h⟩
        simp only[G']; rw[ae jQ,hy]; exact UV λi e=>iS (.inr ⟨i,e⟩)
       have je:n<st.heap.length:=(ah.1 dO).1
       have d7:HR N (w.setRow b NR) G' (st.heap.set n .gone++[.cells (O++(xs.flatMap PV.cells).map dem)]):=by
        refine⟨?_,hf.heap.2.ext cR⟩
        intro m ob hm
        by_cases jH:m<(st.heap.set n .gone).length
        ·rw[al jH,aU] at hm
         split at hm
         ·exact .inl (by simpa[je] using hm.symm)
         ·rename_i da
          rcases hf.heap.1 m ob hm with rfl|⟨y,h1,h2,h3⟩
          ·exact .inl rfl
          ·exact .inr ⟨y,cR.heap _ _ h1,(cU.1 _ _ h2 (by simp; omega)).1,h3.keep h2 cR cU (by simp; omega) (by simp; omega)⟩
        ·rw[aq (by omega)] at hm
         simp only[ba] at hm jH
         have iX:m - st.heap.length=0:=by
          cases hx:m - st.heap.length with
          | zero=>rfl
          | succ k=>rw[hx] at hm; simp at hm
         rw[iX] at hm
         simp at hm
         subst hm
         have kC:m=st.heap.length:=by omega
         subst kC
         refine .inr ⟨b,by simp[G'],by simp[G'],λo' h=>gM o' h,NR,T,setRow_heap w b cv NR T (0,0) hh,?_,?_⟩
         ·simp only[ap]
          rw[← fG,dA,kg]; exact im
         ·intro k c y hc hy
          have eM:CR N w G (.hcell n k) c y:=by
           simp only[NR,bZ,aN] at hc
           by_cases eV:k<len*i2.size
           ·rw[al (by rw[dA]; exact eV)] at hy
            rw[al (by rw[iW]; exact eV)] at hc
            exact m8 k c y hc hy
           ·rw[aq (by rw[dA]; omega),dA] at hy
            have cV:k - len*i2.size<news.length:=by rw[fG]; exact(ah.1 hy).1
            rw[aq (by rw[iW]; omega),iW,al cV] at hc
            exact CR.pure (uD _ c y hc hy)
          refine⟨eM.1.ext cR,eM.2.1,?_⟩
          have dD:=eM.2.2
          split at dD
          ·refine Room.ren dD λx hx =>?_
           have ik:x≠b:=by rintro rfl; rw[eJ] at hx; simp at hx
           refine⟨?_,dj x ik,λ_ h=>h⟩
           simp only[G']; rw[ae ik,hx]; exact UW _ _ _
          ·trivial
       unfold Oper.wp
       rw[ip _ _ cT]
       have dt:FI N (w.setRow b NR) G' { st with heap:=st.heap.set n .gone++[.cells (O++(xs.flatMap PV.cells).map dem)] } a vs (x7 vs ops):=by
        refine⟨hf.len,λi t u h1 h2=>(hf.var i t u h1 h2).keep cR cU (by simp) (by simp),λj t u h1 h2=>(hf.loc j t u h1 h2).keep cR cU (by simp) (by simp),hf.tv,hf.tl,hf.defers,hf.gen,?_,?_,d7,?_⟩
        ·intro y k hy
         simp only[G'] at hy
         split at hy
         ·rename_i jQ; simp[World.setRow,jQ,gf]
         ·cases hx:G.ow y with
          | none=>rw[hx] at hy; simp[D7] at hy
          | some z=>have:=hf.owlt _ _ hx; simpa[World.setRow] using this
        ·intro y o' h; have:=hf.fixlt _ _ h; simpa[World.setRow] using this
        ·intro m y hy
         simp only[G'] at hy
         split at hy
         ·simp; omega
         ·have:=hf.hdom _ _ hy; simp; omega
       refine hk _ _ G' (dt.put nm (BJ ho) (SR.of_pure (.rowp _ _ _ _ b cap (by simp[G']) ez ⟨T,cv.size,?_,uE⟩) rfl)) cR (BK _ _ _)
       simp only[World.shape?,setRow_heap w b cv NR T (0,0) hh,kg]
   ·simp at hs
  ·simp at hs
 ·rename_i xs ef gF
  have rc:=D3 hE jf hf gF
  obtain⟨cZ,dD⟩:VR N w G.fix G.heap (a.eval s) (.list true [])∧Room w G (BH ps) (a.eval s) []:=rc
  have du:∃base,a.eval s = .slice base 0 0:=by
   generalize a.eval s=v at cZ dD
   cases cZ with
   | nils=>exact⟨none,rfl⟩
   | void _ ad cap =>
     rcases dD with h|⟨_,_,_,_,_,_,_,h,_⟩
     ·subst h; exact⟨_,rfl⟩
     ·simp at h
   | list _ b off len cap sz _ cv cS db _ _ _ _ =>
     simp at cS; subst cS
     rcases dD with h|⟨_,_,_,_,_,_,_,h,_⟩
     ·subst h; exact⟨_,rfl⟩
     ·simp at h
  obtain⟨base,hv⟩:=du
  split at hs
  ·rename_i gy
   subst gy
   simp only[aa,ac] at hs
   obtain⟨rfl,rfl⟩:=hs
   obtain⟨news,fT,dU⟩:=src ef rfl
   have eW:news=[]:=bC.1 (by rw[fT.len]; simp)
   subst eW
   refine yJ nm ho hf (ip _ _ (UT hv dU ff hi rfl)) ?_ hk
   cases base with
   | none=>exact⟨.nils true,True.intro⟩
   | some ad=>exact⟨.void true ad 0,.inl rfl⟩
  ·rename_i gy
   split at hs
   ·rename_i hc
    obtain⟨fR,eP,dE⟩:=hc
    simp only[aa,ac] at hs
    obtain⟨rfl,rfl⟩:=hs
    obtain⟨news,fT,dU⟩:=src ef fR
    have dr:0<xs.length:=bI.2 gy
    have ke:(Builtin.firstCells i2.size 0 (.slice base 0 0)).run P w.drew = .ok ([]:List Value).toArray w.drew:=by
     cases base with
     | none=>exact run_firstCells_none w.drew _ _ _ _
     | some ad=>exact run_firstCells_some w.drew _ _ _ _ _ [] (by simp) (by simp)
    refine grow st.heap.length (heap1:=st.heap) (oldps:=[]) (λh=>absurd h (Nat.lt_irrefl _)) hf.heap rfl fT dU hv ke (by simp) rfl (by simp) (by omega) (by omega) dE ?_
    simpa using hk
   ·simp at hs
 ·rename_i xs ef gF
  have cZ:VR N w G.fix G.heap (a.eval s) .nils:=((D3 hE jf hf gF).read (r := .nils) rfl).1
  have hv:a.eval s = .slice none 0 0:=by
   generalize a.eval s=v at cZ
   cases cZ with
   | nils'=>rfl
  split at hs
  ·rename_i gy
   subst gy
   simp only[aa,ac] at hs
   obtain⟨rfl,rfl⟩:=hs
   obtain⟨news,fT,dU⟩:=src ef rfl
   have eW:news=[]:=bC.1 (by rw[fT.len]; simp)
   subst eW
   exact yJ nm ho hf (ip _ _ (UT hv dU ff hi rfl)) (SR.of_pure .nils' rfl) hk
  ·rename_i gy
   split at hs
   ·rename_i hc
    obtain⟨fR,eP,dE⟩:=hc
    simp only[aa,ac] at hs
    obtain⟨rfl,rfl⟩:=hs
    obtain⟨news,fT,dU⟩:=src ef fR
    have dr:0<xs.length:=bI.2 gy
    refine grow st.heap.length (heap1:=st.heap) (oldps:=[]) (λh=>absurd h (Nat.lt_irrefl _)) hf.heap rfl fT dU hv (run_firstCells_none w.drew _ _ _ _) (by simp) rfl (by simp) (by omega) (by omega) dE ?_
    simpa using hk
   ·simp at hs
 ·simp at hs
theorem b2G (w:World) (ts tx ty e:TypeId) (i:TypeInfo) (zv:Value) {k0:IntKind} (ff:P.underlying ts=some (.slice e)) (ii:P.underlying tx=some (.int k0)) (hi:P.info? e=some i) (hz:i.zero=some zv) (k:IntKind) (n:Nat)
  (h0:0<n) (hn:n≤2147483648) (hb:i.bytes≤16384):
  (Builtin.append_ #[ts,tx] ty #[.slice none 0 0,.int k n]).run P w = .ok (.slice (some ⟨w.heap.size,0,none⟩) n (grownCap w n 0 e))
   (w.drew.alloc (.cells ((if n*i.size=0 then #[] else Builtin.zeroCells zv.cells n)++Builtin.zeroCells zv.cells (grownCap w n 0 e - n)) e)):=by
 have eT:n*i.bytes≤140737488355328:=aD (Nat.mul_le_mul hn hb) (by decide)
 have im:=growslice_fits (need:=n) (old:=0) (bytes:=i.bytes) h0 eT
 have m9:¬(281474976710656<Builtin.nextslicecap n 0*i.bytes):=by omega
 have hw:IntKind.i64.wrap (n:Int)=n:=by
  show (if (true&&decide ((n:Int) % 18446744073709551616≥9223372036854775808))=true then(n:Int) % 18446744073709551616 - 18446744073709551616 else(n:Int) % 18446744073709551616)=_
  simp only[cq,av]
  split<;>omega
 have h1:¬((n:Int)<0):=by omega
 have h2:¬((281474976710656:Int)<(n:Int)*(i.bytes:Int)):=by
  have:((n*i.bytes:Nat):Int)≤140737488355328:=Int.ofNat_le.2 eT
  rw[Int.natCast_mul] at this
  omega
 have h3:¬((9223372036854775807:Int)<(n:Int)):=by omega
 have h4:¬(n=0):=by omega
 by_cases dc:n*i.size=0
 ·simp[Builtin.append_,run_underlying ff,run_underlying ii,Go.sizeOf,typeInfo,zeroValue,hi,hz,asInt,asIntOf,hw,h1,h2,h3,h4,m9,Question.forced,newRow,grownCap,Builtin.firstCells,dc]
 ·simp[Builtin.append_,run_underlying ff,run_underlying ii,Go.sizeOf,typeInfo,zeroValue,hi,hz,asInt,asIntOf,hw,h1,h2,h3,h4,m9,Question.forced,newRow,grownCap,Builtin.firstCells,dc]
theorem b9Y (hE:EnvOk E N) (nm:Names vs (x7 vs ops)) (ho:ops[j]? = some o) (hf:FI N w G st a vs (x7 vs ops)) {ts tx e:TypeId} {k0:IntKind} {size:Nat} {z:List PV} {s x:Operand} {ps px:PX}
  (cW:o.op = .call { callee := .builtin .append,args := #[s,x],argTypes := #[ts,tx] }) (ff:P.underlying ts=some (.slice e)) (ii:P.underlying tx=some (.int k0)) (hn:yN P e=some size) (hz:zV P e=some z)
  (jf:cx E vs ops s=some ps) (hx:cx E vs ops x=some px) {cf:yg} (hs:x9 cf (.happz size (yY P e) (P.bytesOf e) z ps px) st=some (u,st1)) (hk:yz N w G a st1 u vs ops j o next):o.wp P a w next Q:=by
 obtain⟨i,d,hi,gG,fV,hd⟩:=A8 hn
 obtain⟨i2,zv,eH,jN,_,ka,gz,_⟩:=D5 (N:=N) (w:=w) (fix:=G.fix) (hp:=G.heap) hz
 have:i2=i:=by rw[hi] at eH; simpa using eH.symm
 subst this
 subst gG
 have ia:zv.cells.size=i2.size:=by have:=gz.1; simp at this; omega
 have fZ:z.length=i2.size:=by have:=gz.1; simp at this; omega
 have gX:P.bytesOf e=i2.bytes:=by simp[Program.bytesOf,hi]
 simp only[x9] at hs
 rw[gX] at hs
 split at hs
 ·rename_i n eW rR
  split at hs
  ·rename_i hc
   obtain⟨h0,h1,hb⟩:=hc
   simp only[aa,ac] at hs
   obtain⟨rfl,rfl⟩:=hs
   obtain⟨k,hl⟩:=Ex hE hx hf eW
   have hv:a.eval s = .slice none 0 0:=by
    have:=(yH hE jf hf rR).1
    generalize a.eval s=v at this
    cases this
    rfl
   obtain⟨m,rfl⟩:∃m:Nat,n=m:=⟨n.toNat,by omega⟩
   have cT:=b2G (P:=P) w ts tx o.type e i2 zv ff ii hi jN k m (by omega) (by omega) hb
   rw[← hv,← hl] at cT
   have na:(execOp a.eval o).run P w = .ok (.value (.slice (some ⟨w.heap.size,0,none⟩) m (grownCap w m 0 e))) (w.drew.alloc (.cells ((if m*i2.size=0 then #[] else Builtin.zeroCells zv.cells m)++Builtin.zeroCells zv.cells (grownCap w m 0 e - m)) e)):=by
    simp[execOp,cW,resolve,invoke,builtin,cT]
   have dr:¬m*i2.size=0:=by
    intro h
    rcases Nat.mul_eq_zero.1 h with h|h<;>omega
   rw[ae dr] at na
   have ja:=grownCap_ge w m 0 e
   refine UX (v:=undef) (sz:=i2.size) (cap:=grownCap w m 0 e) nm ho hf hf.heap rfl st.heap.length (λh=>absurd h (Nat.lt_irrefl _)) na ja ?_ ?_ ?_ hk
   ·simp only[cM,size_zeroCells,ia]
    rw[Nat.sub_mul]
    have:m*i2.size≤grownCap w m 0 e*i2.size:=bq _ ja
    omega
   ·simp[List.length_flatten,fZ,size_zeroCells,ia]
   ·intro k c y hc hy
    simp only[Int.toNat_natCast] at hy
    rw[KL,aG,fZ] at hy
    split at hy
    ·rename_i cV
     rw[bY (by rw[size_zeroCells,ia]; exact cV)] at hc
     have iL:k % i2.size<i2.size:=bP _ (by omega)
     have gO:c=zv.cells[k % i2.size]! := by
      simp only[Builtin.zeroCells,cA,ab] at hc
      obtain⟨a',ha,rfl⟩:=hc
      have:a'=k:=by
       obtain⟨h1,h2⟩:=aZ.1 ha
       simpa using h2.symm
      rw[this,ia]
     have m7:zv.cells[k % i2.size]? = some c:=by
      rw[gO]
      have:k % i2.size<zv.cells.size:=by omega
      simp[this]
     simp only[aF,ab] at hy
     obtain⟨y0,hy,rfl⟩:=hy
     exact CR.pure ⟨(gz.2.2 _ c y0 (by simpa using m7) hy).dem,by rw[Gz]; exact gz.2.1 y0 (ax hy),c2d y0⟩
    ·simp at hy
  ·simp at hs
 ·simp at hs
theorem b9Z (hE:EnvOk E N) (nm:Names vs (x7 vs ops)) (ho:ops[j]? = some o) (hf:FI N w G st a vs (x7 vs ops)) {t e:TypeId} {rest:List TypeId} {size:Nat} {z:List PV} {x:Operand} {px:PX} (eI:o.dst=none)
  (cW:o.op = .call { callee := .builtin .clear,args := #[x],argTypes:=⟨t::rest⟩ }) (hu:P.underlying t=some (.slice e)) (hn:yN P e=some size) (hz:zV P e=some z)
  (hx:cx E vs ops x=some px) {cf:yg} (hs:x9 cf (.clear size px) st=some (u,st1)) (hk:yz N w G a st1 u vs ops j o next):o.wp P a w next Q:=by
 obtain⟨i,d,hi,gG,fV,hd⟩:=A8 hn
 obtain⟨i2,zv,eH,jN,_,ka,gz,_⟩:=D5 (N:=N) (w:=w) (fix:=G.fix) (hp:=G.heap) hz
 have:i2=i:=by rw[hi] at eH; simpa using eH.symm
 subst this
 subst gG
 have ia:zv.cells.size=i2.size:=by have:=gz.1; simp at this; omega
 simp only[x9] at hs
 split at hs
 ·rename_i n sz off x5
  split at hs
  ·rename_i cs dO
   split at hs
   ·rename_i hc
    obtain⟨rfl,fX⟩:=hc
    simp only[aa,ac] at hs
    obtain⟨rfl,rfl⟩:=hs
    obtain⟨agg,len,iM⟩:∃agg len,VR N w G.fix G.heap (a.eval x) (.rows n i2.size agg off len):=by
     obtain⟨p,hr,hp⟩:=aj.1 x5
     have iM:=(yH hE hx hf hr).1
     cases p<;>simp only[GQ,aa,ac,reduceCtorEq] at hp
     ·rename_i n' sz' ag ln
      obtain⟨rfl,rfl,rfl⟩:=hp
      generalize a.eval x=v at iM ⊢
      cases iM with
      | rowp _ _ _ _ b cap h db ec =>
        obtain⟨T,m,h1,h2⟩:=ec
        exact⟨ag,ln,.rows _ _ _ 0 _ b 0 cap m T h db (.inr (by simp)) h1 (by rw[aS]; exact aD (bq _ db) h2)⟩
     ·obtain⟨rfl,rfl,rfl⟩:=hp
      exact⟨_,_,iM⟩
    generalize hv:a.eval x=v at iM
    cases iM with
    | rows _ _ _ _ _ b o' cap m T hb db rV ec hm =>
      obtain⟨eJ,gM,cv,T',hh,hl,jn⟩:=FQ hf (show yC st n=some cs by simp[yC,dO]) hb
      have oI:m=cv.size:=by simp only[World.shape?,hh,aa,ac] at ec; exact ec.2.symm
      subst oI
      have gf:b<w.heap.size:=hf.owlt _ _ eJ
      obtain⟨NR,pR,x6,cT⟩:∃NR:Array Value,NR.size=cv.size∧(∀k,k<off*i2.size→NR[k]? = cv[k]?)∧(execOp a.eval o).run P w = .ok (.value (.tuple #[])) (w.setRow b NR):=by
       cases len with
       | zero =>
         refine⟨cv,rfl,λ_ _=>rfl,?_⟩
         have hw:w.setRow b cv=w:=by
          have h2:(w.setRow b cv).heap=w.heap:=by
           apply Array.ext_getElem?
           intro k
           by_cases vI:k=b
           ·subst vI; rw[setRow_heap w k cv cv T' (0,0) hh,hh]
           ·exact setRow_other w b k _ vI
          exact aI (λh=>{ w with heap:=h }) h2
         rw[hw]
         simp[execOp,cW,hv,resolve,invoke,builtin,Builtin.clear_,run_underlying hu]
       | succ len =>
         have ho:o'=off*i2.size:=by rcases rV with h|h; exact absurd h (by omega); exact h
         subst ho
         let zs:List Value:=(Builtin.zeroCells zv.cells (len+1)).toList
         have rh:zs.length=(len+1)*i2.size:=by simp only[zs,bp,size_zeroCells,ia]
         have dn:=KC P b (off*i2.size) T' (0,0) zs 0 cv w hh (λo _ h=>by simp at h) (by rw[aQ] at hm; simp only[rh]; omega) (by
          intro u hu
          simp only[zs,Builtin.zeroCells,Array.toList_map,bc] at hu
          obtain⟨a',_,rfl⟩:=hu
          have iL:a' % zv.cells.size<zv.cells.size:=bP _ (by omega)
          have m7:zv.cells[a' % zv.cells.size]? = some zv.cells[a' % zv.cells.size]! := by simp[iL]
          have ri:a' % zv.cells.size<z.length:=by have:=gz.1; simp at this; omega
          have h1:=(gz.2.2 _ _ z[a' % zv.cells.size] (by simpa using m7) (am ri)).oneCell (gz.2.1 _ (ak ri))
          generalize zv.cells[a' % zv.cells.size]! = c at h1
          cases c<;>first|rfl|simp[oneCell] at h1)
         refine⟨(cv.toList.take (off*i2.size)++zs++cv.toList.drop (off*i2.size+zs.length)).toArray,?_,?_,?_⟩
         ·rw[aQ] at hm
          simp only[cj,ap,aY,cg,bp,rh]; omega
         ·intro k hk
          rw[aQ] at hm
          simp only[bZ,aN]
          rw[al (by simp; omega),aW,ai hk]
          simp
         ·simp only[zs] at dn
          simp[execOp,cW,hv,resolve,invoke,builtin,Builtin.clear_,run_underlying hu,zeroValue,typeInfo,hi,jN,dn,zs]
      have dj:∀x,x≠b→(w.setRow b NR).heap[x]? = w.heap[x]? := λx hx=>setRow_other w b x _ hx
      have cR:Ext w G (w.setRow b NR) G:=by
       refine⟨rfl,rfl,rfl,by simp[World.setRow],?_,?_,λ_ _ h => .inl h,λ_ h => .inr h,λ_ _ h=>h,II hh _ pR,rfl⟩
       ·intro x _ li
        exact dj x (by rintro rfl; rw[eJ] at li; simp at li)
       ·intro x o' gx
        refine⟨gx,?_⟩
        have ik:x≠b:=by rintro rfl; exact gM _ gx
        simp only[World.cell?,dj x ik]
      have cU:zo (λk=>k = .hobj n) w G (w.setRow b NR) G:=by
       refine⟨?_,λ_ _ h=>h⟩
       intro x k jO iS
       refine⟨jO,dj x ?_,λ_ h=>h⟩
       rintro rfl
       rw[eJ] at jO
       simp at jO
       exact iS jO.symm
      have jm:FI N (w.setRow b NR) G { st with heap:=st.heap.set n (.cells (cs.take (off*i2.size))) } a vs (x7 vs ops):=by
       refine⟨hf.len,λi t' u' h1 h2=>(hf.var i t' u' h1 h2).keep cR cU (by simp) (by simp),λi t' u' h1 h2=>(hf.loc i t' u' h1 h2).keep cR cU (by simp) (by simp),hf.tv,hf.tl,hf.defers,hf.gen,?_,?_,?_,?_⟩
       ·intro x k hx; simpa[World.setRow] using hf.owlt x k hx
       ·intro x o' hx; simpa[World.setRow] using hf.fixlt x o' hx
       ·refine hf.heap.keepBut cR cU (λn k da=>⟨by simp; omega,by simp⟩) (λ_ =>?_)
        refine .inr ⟨b,hb,eJ,gM,NR,T',setRow_heap w b cv NR T' (0,0) hh,?_,?_⟩
        ·simp; omega
        ·intro k c y hc hy
         rw[aW] at hy
         split at hy
         ·rename_i em
          rw[x6 k em] at hc
          exact(jn k c y hc hy).keep cR cU (by simp)
         ·simp at hy
       ·simp only[ba]; exact hf.hdom
      unfold Oper.wp
      rw[cT]
      have gB:a.put o.dst (.tuple #[])=a:=by simp[eI,Act.put]
      have hd:yF vs o.dst = .n:=by simp[eI,yF]
      show next (a.put o.dst (.tuple #[])) _
      rw[gB]
      refine hk _ _ G ?_ cR rfl
      rw[hd]
      exact jm
   ·simp at hs
  ·simp at hs
 ·simp at hs
end
end PI
set_option linter.unusedSimpArgs false
set_option linter.unusedVariables false
namespace PI
open Go Go.RowKit
theorem D6:∀{ps:List PV},yq ps=true→∀p∈ps,yt p=true
 | [],_,p,hp=>by simp at hp
 | x :: xs, h, p, hp => by
   simp only[yq,ao] at h
   rcases aA.1 hp with rfl|hp
   ·exact h.1
   ·exact D6 h.2 p hp
theorem b6x {p:PV} (h:yt p=true):∀x∈p.cells,yt x=true:=by
 intro x hx
 cases p<;>simp only[PV.cells,aP] at hx<;>first|(subst hx; exact h)|(simp at hx)|skip
 grind [D6,yt]
theorem VR.free {N:Nm} {w:World} {fix:Nat→Nat→Prop} {hp fk:Nat→Option Nat} {v:Value} {p:PV} (h:VR N w fix hp v p) (hr:yt p=true):VR N w fix fk v p:=by
 induction h with
 | bool b=>exact .bool b
 | int k n=>exact .int k n
 | str s=>exact .str s
 | nils own=>exact .nils own
 | void own a cap=>exact .void own a cap
 | nils'=>exact .nils'
 | void' a cap=>exact .void' a cap
 | list own b off len cap sz es cv cS db dc cY hcell _ ih =>
   refine .list own b off len cap sz es cv cS db dc cY hcell (λi e he j x hx=>ih i e he j x hx ?_)
   grind [D6,yt,List.mem_of_getElem?,b6x]
 | agg cs ps cS cY fg _ ih=>exact .agg cs ps cS cY fg (λi c p hc hp=>ih i c p hc hp (D6 (by assumption) p (ax hp)))
 | tuple cs ps cS _ ih=>exact .tuple cs ps cS (λi c p hc hp=>ih i c p hc hp (D6 (by assumption) p (ax hp)))
 | nilptr=>exact .nilptr
 | cptr b off ps cv cY hcell _ ih=>exact .cptr b off ps cv cY hcell (λk x hx=>ih k x hx (D6 (by assumption) x (ax hx)))
 | ptr n off b h=>simp[yt] at hr
 | rowp n sz agg len b cap h db ec=>simp[yt] at hr
 | rows n sz agg off len b o cap m T h db ho ec hm=>simp[yt] at hr
 | mapn=>exact .mapn
 | map n b h=>simp[yt] at hr
 | yield k n l y tmps caps h0 hl rR cS _ _ _=>simp[yt,yq] at hr
 | func k fs cs pf pc h0 h1 h2 _ _ ihf ihc =>
   simp only[yt,ao] at hr
   exact .func k fs cs pf pc h0 h1 h2 (λi c p hc hp=>ihf i c p hc hp (D6 hr.1 p (ax hp))) (λi c p hc hp=>ihc i c p hc hp (D6 hr.2 p (ax hp)))
 | nilfunc=>exact .nilfunc
 | iface t v p _ ih=>exact .iface t v p (ih (by assumption))
 | nilIface=>exact .nilIface
theorem VR.cp_dem {N:Nm} {w:World} {fix:Nat→Nat→Prop} {hp:Nat→Option Nat} {v:Value} {p:PV} (h:VR N w fix hp v p):cp (PI.dem p)=some (PI.dem p):=by
 cases h<;>rfl
theorem NP {n sz len:Nat} {agg:Bool}:∀{ps:List PV},.rowp n sz agg len∈ps→n∈Dx ps
 | p :: ps, h => by
   simp only[Dx,ay]
   rcases aA.1 h with h|h
   ·subst h; exact .inl (by simp[zp])
   ·exact .inr (NP h)
def GS.shut (G:GS) (ns:List Nat) (heap:List PObj):GS:=
 { G with fix:=λb o=>G.fix b o∨∃n∈ns,∃cs:List PV,G.heap n=some b∧heap[n]? = some (.cells cs)∧o<cs.length }
section
variable {N:Nm}
theorem VR.shut {w:World} {G:GS} {ns:List Nat} {heap:List PObj} {v:Value} {p:PV} (h:VR N w G.fix G.heap v p):VR N w (G.shut ns heap).fix (G.shut ns heap).heap v p:=
 h.mono (λ_ _ h=>⟨.inl h,rfl⟩) (λ_ _ h=>h) (ShapeLe.refl w)
theorem NN:∀(ns:List Nat) (h:List PObj) (n:Nat),(n∈ns→(BT ns h)[n]? = h[n]?.map (λ_ => .gone))∧(n∉ns→(BT ns h)[n]? = h[n]?)
 | [],h,n=>by simp[BT]
 | m :: ns, h, n => by
   simp only[BT]
   obtain⟨i1,i2⟩:=NN ns (h.set m .gone) n
   by_cases hm:m=n<;>grind
theorem NO:∀(ns:List Nat) (h:List PObj),(BT ns h).length=h.length
 | [],h=>rfl
 | n::ns,h=>by simp_all [BT,NO]
theorem HR.shutG {w:World} {G:GS} {heap h2:List PObj} {ns:List Nat} (h:HR N w G heap) (hg:∀n:Nat,(n∈ns→h2[n]? = heap[n]?.map (λ_=>PObj.gone))∧(n∉ns→h2[n]? = heap[n]?)):HR N w (G.shut ns heap) h2:=by
 have own:∀n b,n∈ns→∀cs,G.heap n=some b→heap[n]? = some (.cells cs)→G.ow b=some (.hobj n):=by
  intro n b _ cs h1 h2
  rcases h.1 n _ h2 with h3|⟨b',k1,k2,_⟩<;>simp_all
 have room:∀{n k:Nat} {v:Value} {es:List PV},Room w G (.hcell n k) v es→Room w (G.shut ns heap) (.hcell n k) v es:=by
  intro n k v es hr
  unfold Room at *
  split at hr
  ·rcases hr with hr|⟨h1,sz,cs,T,h2,h3,h4,h5,h6⟩
   ·omega
   ·refine .inr ⟨h1,sz,cs,T,h2,h3,h4,h5,?_⟩
    rintro o ho (hf|⟨m,hm,cs',k1,k2,_⟩)<;>grind
  ·trivial
 refine⟨?_,⟨λt ht=>⟨.inl (h.2.1 t ht).1,(h.2.1 t ht).2⟩,h.2.2⟩⟩
 intro n ob dO
 by_cases hn:n∈ns
 ·simp_all
 ·rw[(hg n).2 hn] at dO
  rcases h.1 n _ dO with rfl|⟨b,k1,k2,k3⟩
  ·simp
  refine .inr ⟨b,k1,k2,?_⟩
  have nofix:(∀o,¬G.fix b o)→∀o,¬(G.shut ns heap).fix b o:=by
   rintro hf o (h1|⟨m,hm,cs',j1,j2,_⟩)<;>grind
  cases ob with
  | cells cs =>
    obtain⟨f,cv,T,a1,a2,a3⟩:=k3
    refine⟨nofix f,cv,T,a1,a2,?_⟩
    intro k c x hc hx
    obtain⟨b1,b2,b3⟩:=a3 k c x hc hx
    refine⟨b1.shut,b2,?_⟩
    grind
  | map es =>
    obtain⟨mes,clock,a1,a2,a3,a4,a5⟩:=k3
    refine⟨mes,clock,a1,a2,a3,a4,?_⟩
    intro i e p hi hp
    obtain⟨b1,b2,b3⟩:=a5 i e p hi hp
    refine⟨b1.shut,b2.shut,?_⟩
    grind
  | gone=>trivial
  | loop ready =>
    obtain⟨f,r,a1,a2⟩:=k3
    exact⟨nofix f,r,a1,a2⟩
  | over id =>
    obtain⟨f,r,a1,a2⟩:=k3
    exact⟨nofix f,r,a1,a2⟩
theorem Td {w:World} {G:GS} {heap:List PObj} (h:HR N w G heap) {ns:List Nat} {n sz len b cap:Nat} (db:len≤cap) {agg:Bool} {cs es:List PV} (hn:n∈ns) (hb:G.heap n=some b) (hc:heap[n]? = some (.cells cs)) (dc:agg=true∨sz=1)
  (he:Aj sz agg cs len 0=some es):VR N w (G.shut ns heap).fix (G.shut ns heap).heap (.slice (some ⟨b,0,none⟩) len cap) (.list false es):=by
 rcases h.1 n _ hc with hg|⟨b',k1,k2,f,cv,T,a1,a2,a3⟩
 ·simp at hg
 have:b'=b:=by simp_all
 subst this
 obtain⟨e1,e2⟩:=JJ he
 have fI:∀(i:Nat) (e:PV),es[i]? = some e→i*sz+sz≤cs.length∧e.cells.length=sz∧∀(j:Nat) (x:PV),e.cells[j]? = some x→∃y,cs[i*sz+j]? = some y∧x=dem y∧j<sz:=by
  intro i e hi
  have:=e2 i e hi
  rw[aS] at this
  unfold yh at this
  split at this
  ·split at this<;>grind [Option.some.injEq,PV.cells,Option.map_eq_some_iff]
  ·rename_i iP
   have h1:sz=1:=by simp_all
   subst h1
   split at this
   ·rename_i y hy
    have cV  := (ah.1 hy).1
    have fG  := (a3 _ cv[i*1] y (by simp) hy).2.1
    have gc:e=dem y∧y.cells=[y]:=by
     cases y<;>simp_all [cp,dem,PV.cells,PV.flat]
    obtain⟨rfl,_⟩:=gc
    have iA:(dem y).cells=[dem y]:=by cases y<;>simp_all [dem,PV.cells,PV.flat]
    grind
   simp_all
 have oF:∀k,k<len*sz→k<cs.length:=by
  intro k hk
  have fV:0<sz:=by
   grind
  have hi:k / sz<len:=by simp_all [Nat.div_lt_iff_lt_mul]
  have:=(fI (k / sz) es[k / sz] (am (by omega))).1
  have h2:k / sz*sz+k % sz=k:=by grind [Nat.mul_comm,Nat.div_add_mod]
  have h3:k % sz<sz:=bP _ fV
  omega
 refine .list false b' 0 len cap sz es (λk=>cv.getD k undef) e1 db ?_ ?_ ?_ ?_
 ·grind [List.mem_iff_getElem?]
 ·intro e he x hx
  obtain⟨i,hi⟩:=bj.1 he
  obtain⟨j,hj⟩:=bj.1 hx
  obtain⟨y,hy,rfl,_⟩:=(fI i e hi).2.2 j x hj
  rw[Gz]
  have cV  := (ah.1 hy).1
  exact(a3 _ cv[i*sz+j] y (by simp) hy).2.1
 ·intro k hk
  have cV:=oF k hk
  refine⟨?_,.inr ⟨n,hn,cs,hb,hc,by omega⟩⟩
  have:k<cv.size:=by omega
  simp[World.cell?,a1,this]
 ·intro i e hi j x hx
  obtain⟨y,hy,rfl,_⟩:=(fI i e hi).2.2 j x hx
  have cV  := (ah.1 hy).1
  have mj:i*sz+j<cv.size:=by omega
  have:=(a3 _ cv[i*sz+j] y (by simp ) hy).1
  simp only[aV,cQ mj]
  exact this.dem.shut
theorem KD {w:World} {G:GS} {heap:List PObj} (h:HR N w G heap) {ns:List Nat} {v:Value} {p q:PV} (eN:∀m sz agg len,p = .rowp m sz agg len→m∈ns) (hv:VR N w G.fix G.heap v p) (hp:Co heap p=some q):
  VR N w (G.shut ns heap).fix (G.shut ns heap).heap v q∧(p.flat=true→q.flat=true)∧(∀es,q = .list true es→p = .list true es):=by
 by_cases hr:∃m sz agg len,p = .rowp m sz agg len
 ·obtain⟨m,sz,agg,len,rfl⟩:=hr
  simp only[Co] at hp
  split at hp
  ·split at hp
   ·simp only[ab] at hp
    obtain⟨es,ga,rfl⟩:=hp
    refine⟨?_,λ_=>rfl,λes e=>by simp at e⟩
    cases hv<;>grind [Td]
   grind
  grind
 ·have:Co heap p=some p:=by cases p<;>first|rfl|simp_all
  rw[this] at hp
  simp only[aa] at hp
  subst hp
  exact⟨hv.shut,id,λes e=>e⟩
theorem UA {heap:List PObj}:∀{ps qs:List PV},Cp heap ps=some qs→qs.length=ps.length∧∀(i:Nat) (q:PV),qs[i]? = some q→∃p,ps[i]? = some p∧Co heap p=some q
 | [],qs,h=>by simp_all [Cp]
 | p :: ps, qs, h => by
   simp only[Cp,aj,ab] at h
   obtain⟨q,h1,qs',h2,rfl⟩:=h
   obtain⟨k1,k2⟩:=UA h2
   refine⟨by simp[k1],?_⟩
   intro i x hx
   cases i with
   | zero=>simp at hx; subst hx; exact⟨p,rfl,h1⟩
   | succ i=>exact k2 i x (by simpa using hx)
theorem c15 {w:World} {G:GS} {heap:List PObj} (h:HR N w G heap) {ns:List Nat} {v:Value} {p q:PV} (eN:∀x∈p.cells,∀m sz agg len,x = .rowp m sz agg len→m∈ns) (hv:VR N w G.fix G.heap v p) (hp:zN heap p=some q):
  VR N w (G.shut ns heap).fix (G.shut ns heap).heap v q:=by
 by_cases ha:∃ps,p = .agg ps
 ·obtain⟨ps,rfl⟩:=ha
  simp only[zN,ab] at hp
  obtain⟨qs,lZ,rfl⟩:=hp
  obtain⟨f1,f2⟩:=UA lZ
  cases hv with
  | agg cs _ cS cY fg hcell =>
    refine .agg cs qs (by omega) ?_ ?_ ?_
    ·intro y hy
     obtain⟨i,hi⟩:=bj.1 hy
     obtain⟨x,hx,kB⟩:=f2 i y hi
     have cV:i<cs.size:=by grind
     exact(KD h (eN x (ax hx)) (hcell i cs[i] x (by simp ) hx) kB).2.1 (cY x (ax hx))
    ·intro i c es hc hy
     obtain⟨x,hx,kB⟩:=f2 i _ hy
     have:=(KD h (eN x (ax hx)) (hcell i c x hc hx) kB).2.2 es rfl
     grind
    ·intro i c y hc hy
     obtain⟨x,hx,kB⟩:=f2 i y hy
     exact(KD h (eN x (ax hx)) (hcell i c x hc hx) kB).1
 ·have:zN heap p=some p:=by cases p<;>first|rfl|simp_all
  rw[this] at hp
  simp only[aa] at hp
  subst hp
  exact hv.shut
mutual
theorem ON (h:List PObj):∀p:PV,(frz h p).flat=p.flat
 | .list _ _ | .agg _ | .tuple _=>rfl
 | .rowp n sz agg len => by
   simp only[frz]
   cases hf:Co h (.rowp n sz agg len) with
   | none=>rfl
   | some q =>
     simp only[Co] at hf
     split at hf
     ·split at hf
      ·simp only[ab] at hf
       obtain⟨_,_,rfl⟩:=hf; rfl
      grind
     grind
 | .bool _ | .int _ _ | .str _ | .nils | .void | .nilptr | .cptr _ | .loc _ _ | .lptr _ _ _ | .ptr _ _ | .rows _ _ _ _ _ | .fresh _ _ _ _ | .map _ | .func _ _ _ | .nilfunc | .iface _ _ | .nilIface | .dead=>rfl
end
theorem GJ (h:List PObj):∀l:List PV,BL h l=l.map (frz h)
 | []=>rfl
 | x::l=>by simp[BL,GJ h l]
theorem GK:∀l:List PV,Dw l=l.flatMap Cq
 | []=>rfl
 | x::l=>by simp[Dw,GK l]
theorem OO (h:List PObj) (p:PV) (hp:∀x∈p.cells,x.flat=true):(frz h p).cells=p.cells.map (frz h):=by
 cases p with
 | agg cs=>simp[frz,PV.cells,GJ]
 | tuple cs=>rfl
 | rowp n sz agg len =>
   have:=ON h (.rowp n sz agg len)
   revert this
   generalize hq:frz h (.rowp n sz agg len)=q
   intro this
   cases q<;>simp_all [PV.cells,PV.flat]
 | _=>simp[frz,PV.cells]
theorem c16 {p x:PV} (hx:x∈p.cells):∀n∈Cq x,n∈Cq p:=by
 intro n hn
 cases p<;>simp only[PV.cells,aP,List.not_mem_nil] at hx<;>first|(subst hx; exact hn)|skip
 grind [Cq,GK]
theorem c9l {h:List PObj} {p:PV} {es:List PV} (e:frz h p = .list true es):∃es',p = .list true es'∧es=BL h es':=by
 cases p<;>simp only[frz] at e
 case list o l=>simp_all
 case rowp n sz agg len=>
  cases hf:Co h (.rowp n sz agg len)<;>grind [Co,Option.map_eq_some_iff]
 all_goals cases e
theorem OP {w:World} {G:GS} {heap:List PObj} (h:HR N w G heap) {ns:List Nat} {v:Value} {p:PV} (hv:VR N w G.fix G.heap v p) (eN:∀n∈Cq p,n∈ns):VR N w (G.shut ns heap).fix (G.shut ns heap).heap v (frz heap p):=by
 induction hv with
 | list own b off len cap sz es cv cS db dc cY hcell cZ ih =>
   simp only[frz,GJ]
   refine .list own b off len cap sz (es.map (frz heap)) cv (by simp_all) db ?_ ?_ (λk hk=>⟨(hcell k hk).1,.inl (hcell k hk).2⟩) ?_
   ·grind [OO,List.length_map]
   ·grind [OO,ON]
   ·intro i e he j x hx
    rw[aF,ab] at he
    obtain⟨e',fL,rfl⟩:=he
    have hm:=ax fL
    rw[OO heap e' (cY e' hm),aF,ab] at hx
    obtain⟨y,hy,rfl⟩:=hx
    refine ih i e' fL j y hy (λn hn=>eN n ?_)
    simp only[Cq,GK]
    exact bV.2 ⟨e',hm,c16 (ax hy) n hn⟩
 | agg cs ps cS cY fg cZ ih =>
   simp only[frz,GJ]
   refine .agg cs _ (by simp_all) ?_ ?_ ?_
   ·intro x hx
    obtain⟨y,hy,rfl⟩:=bc.1 hx
    rw[ON]
    exact cY y hy
   ·intro i c es hc hp
    rw[aF,ab] at hp
    obtain⟨y,hy,e⟩:=hp
    obtain⟨es',rfl,_⟩:=c9l e
    exact fg i c es' hc hy
   ·intro i c x hc hp
    rw[aF,ab] at hp
    obtain⟨y,hy,rfl⟩:=hp
    refine ih i c y hc hy (λn hn=>eN n ?_)
    simp only[Cq,GK]
    exact bV.2 ⟨y,ax hy,hn⟩
 | tuple cs ps cS cZ ih =>
   simp only[frz,GJ]
   refine .tuple cs _ (by simp_all) ?_
   grind [Option.map_eq_some_iff,Cq,GK,List.mem_of_getElem?]
 | rowp n sz agg len b cap hb db ec =>
   have hv:VR N w G.fix G.heap (.slice (some ⟨b,0,none⟩) len cap) (.rowp n sz agg len) := .rowp n sz agg len b cap hb db ec
   simp only[frz]
   cases hf:Co heap (.rowp n sz agg len) with
   | none=>exact hv.shut
   | some q=>exact(KD h (λm _ _ _ e=>by simp_all [Cq]) hv hf).1
 | bool b=>exact .bool b
 | int k n=>exact .int k n
 | str s=>exact .str s
 | nils own=>exact .nils own
 | void own a cap=>exact .void own a cap
 | nils'=>exact .nils'
 | void' a cap=>exact .void' a cap
 | nilptr=>exact .nilptr
 | cptr b off ps cv cY hcell cZ _=>exact(VR.cptr b off ps cv cY hcell cZ).shut
 | ptr n off b h=>exact(VR.ptr n off b h).shut
 | rows n sz agg off len b o cap m T h db ho ec hm=>exact(VR.rows n sz agg off len b o cap m T h db ho ec hm).shut
 | mapn=>exact .mapn
 | map n b h=>exact(VR.map n b h).shut
 | func k fs cs pf pc h0 h1 h2 hf hc _ _=>exact(VR.func k fs cs pf pc h0 h1 h2 hf hc).shut
 | yield k n l y tmps caps h0 hl hr cS dc hc _=>exact(VR.yield k n l y tmps caps h0 hl hr cS dc hc).shut
 | nilfunc=>exact .nilfunc
 | iface t v p h _=>exact(VR.iface t v p h).shut
 | nilIface=>exact .nilIface
end
structure HeapOnly (G:GS):Prop where
 ow:∀b k,G.ow b=some k→k.isH=true
 box:∀g,G.box g=none
structure Between (N:Nm) (w:World) (G:GS) (h:List PObj):Prop where
 only:HeapOnly G
 fixlt:∀b o,G.fix b o→b<w.heap.size
 owlt:∀b k,G.ow b=some k→b<w.heap.size
 heap:HR N w G h
 hdom:∀n b,G.heap n=some b→n<h.length
def FJ (w0:World) (G0:GS) (w:World) (G:GS) (v:Value) (es:List PV):Prop:=
 match v with
 | .slice (some a) len cap => cap = len ∨
   ((w0.heap.size ≤ a.block ∨ G0.ow a.block ≠ none) ∧ ∃ sz cs T, (∀ e ∈ es, e.cells.length = sz) ∧ Live w a.block cs T ∧ a.off + cap * sz ≤ cs.size ∧
     0<len∧∀o,a.off+len*sz≤o→¬G.fix a.block o)
 | _=>True
structure OwnIn (N:Nm) (w:World) (G:GS) (own:Option Nat) (args:List PV) (vals:Array Value):Prop where
 ow:∀b k,G.ow b=some k→∃i,own=some i∧k = .var i
 box:∀g,G.box g=none
 heap:∀n,G.heap n=none
 fixlt:∀b o,G.fix b o→b<w.heap.size
 owlt:∀b k,G.ow b=some k→b<w.heap.size
 tab:Tab N w G.fix
 size:vals.size=args.length
 vr:∀(i:Nat) (v:Value) (p:PV),vals[i]? = some v→args[i]? = some p→VR N w G.fix G.heap v p
 room:∀(i:Nat) (v:Value) (es:List PV),own=some i→vals[i]? = some v→args[i]? = some (.list true es)→Room w G (.var i) v es
def d6f (N:Nm) (P:Program) (cf:yg):Prop:=
 ∀ (k : Nat) (own : Option Nat) (args : List PV) (r : PV) (h' : List PObj), cf k (BX own args) [] = some (r, h') → N.yl k = none ∧ ∀ (w : World) (G : GS) (vals : Array Value), OwnIn N w G own args vals →
   Calls P (N.fn k) vals w λe w'=>∃v G',e = .returned v∧VR N w' G'.fix G'.heap v r∧Ext w G w' G'∧(∀b o,G'.fix b o→b<w'.heap.size)∧∀es,r = .list true es→FJ w G w' G' v es
def c9m (N:Nm) (P:Program) (cf:yg):Prop:=
 ∀ (k : Nat) (args : List PV) (r : PV) (h h' : List PObj), cf k args h = some (r, h') → N.yl k = none ∧ ∀ (w : World) (G : GS) (vals : Array Value), Between N w G h → vals.size = args.length →
   (∀(i:Nat) (v:Value) (p:PV),vals[i]? = some v→args[i]? = some p→VR N w G.fix G.heap v p) →
   Calls P (N.fn k) vals w λe w'=>∃v G',e = .returned v∧VR N w' G'.fix G'.heap v r∧Ext w G w' G'∧Between N w' G' h'
structure CallOK (N:Nm) (P:Program) (cf:yg):Prop where
 plain:c9m N P cf
 own:d6f N P cf
theorem Room.sub {w:World} {G G':GS} {key:Key} {v:Value} {es:List PV} (h:Room w G key v es) (hf:G'.fix=G.fix) (ho:∀b,G.ow b=some key→G'.ow b=some key):Room w G' key v es:=by
 unfold Room at *
 split at h
 ·rcases h with h|⟨h1,sz,cs,T,h2,h3,h4,h5,h6⟩
  ·omega
  ·exact .inr ⟨ho _ h1,sz,cs,T,h2,h3,h4,h5,by simp_all⟩
 ·trivial
theorem HR.sub {N:Nm} {w:World} {G G':GS} {heap:List PObj} (h:HR N w G heap) (hf:G'.fix=G.fix) (hh:G'.heap=G.heap) (ho:∀b k,k.isH=true→G.ow b=some k→G'.ow b=some k):HR N w G' heap:=by
 refine⟨?_,by rw[hf]; exact h.2⟩
 intro n ob dO
 rcases h.1 n ob dO with rfl|⟨b,h1,h2,h3⟩
 ·simp
 refine .inr ⟨b,by simp_all,ho _ _ rfl h2,?_⟩
 cases ob with
 | cells cs =>
   obtain⟨f,cv,T,a1,a2,a3⟩:=h3
   refine⟨by simp_all,cv,T,a1,a2,?_⟩
   intro k c x hc hx
   obtain⟨b1,b2,b3⟩:=a3 k c x hc hx
   refine⟨by simp_all,b2,?_⟩
   split at b3
   ·exact b3.sub hf (λb=>ho b _ rfl)
   ·trivial
 | map es =>
   obtain⟨mes,clock,a1,a2,a3,a4,a5⟩:=h3
   refine⟨mes,clock,a1,a2,a3,a4,?_⟩
   intro i e p hi hp
   obtain⟨b1,b2,b3⟩:=a5 i e p hi hp
   refine⟨by simp_all,by simp_all,?_⟩
   split at b3
   ·exact b3.sub hf (λb=>ho b _ rfl)
   ·trivial
 | gone=>trivial
 | loop ready =>
   obtain⟨f,r,a1,a2⟩:=h3
   exact⟨by simp_all,r,a1,a2⟩
 | over id =>
   obtain⟨f,r,a1,a2⟩:=h3
   exact⟨by simp_all,r,a1,a2⟩
def Bk (ow:Nat→Option Key) (b:Nat):Option Key:=
 match ow b with
 | some k=>if k.isH then some k else none
 | none=>none
theorem Gs {ow:Nat→Option Key} {b:Nat} {k:Key} (h:Bk ow b=some k):ow b=some k∧k.isH=true:=by
 grind [Bk]
theorem NU {ow:Nat→Option Key} {b:Nat} {k:Key} (h:ow b=some k) (hk:k.isH=true):Bk ow b=some k:=by
 simp[Bk,h,hk]
def Ag (N:Nm) (P:Program) (L:Nat→Option PFunc):Prop:=
 ∀k f,L k=some f→∃fn,P.funcs[N.fn k]? = some fn∧fn.name ≠ "runtime.NumGoroutine" ∧ fn.body.isNone=false
section
variable {E:Env} {N:Nm} {w:World} {G:GS} {st:St} {a:Act} {vs:List Tmp} {ops:List Oper} {P:Program}
variable {o:Oper} {j:Nat} {next:Act→World→Prop} {Q:Exit→Act→World→Prop} {u:PV} {st1:St}
theorem C4 {L:Nat→Option PFunc} (hF:Ag N P L) {k:Nat} {f:PFunc} (hL:L k=some f) (args:Array Value) (w:World):(callFunc (N.fn k) args).run P w = .ok (.enter (N.fn k) args) w:=by
 obtain⟨fn,h1,h2,h3⟩:=hF k f hL
 grind [callFunc,Sem.run_bind,run_program,Result.andThen_ok,Bool.false_eq_true,Sem.run_pure]
mutual
theorem OQ (h:List PObj):∀p:PV,yt p=true→frz h p=p
 | .list _ es,hp=>by simp_all [frz,KE,yt]
 | .agg cs,hp=>by simp_all [frz,KE,yt]
 | .tuple vs,hp=>by simp_all [frz,KE,yt]
 | .rowp _ _ _ _,hp=>by simp[yt] at hp
 | .bool _,_ | .int _ _,_ | .str _,_ | .nils,_ | .void,_ | .nilptr,_ | .cptr _,_ | .loc _ _,_ | .lptr _ _ _,_ | .ptr _ _,_ | .rows _ _ _ _ _,_ | .fresh _ _ _ _,_ | .map _,_ | .func _ _ _,_ | .nilfunc,_ | .iface _ _,_ | .nilIface,_ | .dead,_=>rfl
theorem KE (h:List PObj):∀l:List PV,yq l=true→BL h l=l
 | [],_=>rfl
 | x :: l, hp => by
   simp_all [yq,BL,OQ,KE]
end
theorem OR (nm:Names vs (x7 vs ops)) (ho:ops[j]? = some o) (hf:FI N w G st a vs (x7 vs ops)) {cf:yg} (dK:CallOK N P cf) {k:Nat} {args:List PV} {vals:Array Value} {r:PV} {h':List PObj}
  (dc:vals.size=args.length) (hv:∀(i:Nat) (v:Value) (p:PV),vals[i]? = some v→args[i]? = some p→VR N w G.fix G.heap v p) (dH:yq args=true) (hc:cf k args []=some (r,h')) (hr:yt (frz h' r)=true)
  (cT:(execOp a.eval o).run P w = .ok (.enter (N.fn k) vals) w) (hk:yz N w G a st (dem (frz h' r)) vs ops j o next):o.wp P a w next Q:=by
 unfold Oper.wp
 rw[cT]
 let Gc:GS:={ fix:=G.fix,heap:=λ_=>none,box:=λ_=>none,ow:=λ_=>none }
 have dW:Between N w Gc []:=⟨⟨by simp,λ_=>rfl⟩,hf.fixlt,by simp,⟨by simp,hf.heap.2⟩,by simp⟩
 refine((dK.plain k args r [] h' hc).2 w Gc vals dW dc (λi v p h1 h2=>(hv i v p h1 h2).free (D6 dH p (ax h2)))).mono ?_
 rintro e w' ⟨v,G2,rfl,cZ,he,dE⟩
 let G'  := { G with fix:=(G2.shut (Cq r) h').fix }
 have oG  := λb hb=>he.same b hb rfl
 have fg:∀n b cs,G2.heap n=some b→h'[n]? = some (.cells cs)→G2.ow b≠none:=by
  intro n b cs h1 h2
  rcases dE.heap.1 n _ h2 with h3|⟨b',k1,k2,_⟩<;>simp_all
 have ee:∀b o,G'.fix b o→G.fix b o∨w.heap.size≤b:=by
  rintro b o (h|⟨n,_,cs,h1,h2,_⟩)
  ·rcases he.newfix b o h with h|h|h<;>grind
  ·exact .inr ((he.own b (fg n b cs h1 h2)).resolve_right (λh=>h rfl))
 have cV:∀b o,G'.fix b o→b<w'.heap.size:=by
  rintro b o (h|⟨n,_,cs,h1,h2,_⟩)
  ·exact dE.fixlt b o h
  ·cases hk:G2.ow b with
   | none=>grind
   | some key=>exact dE.owlt b key hk
 have cR:Ext w G w' G':=by
  refine⟨he.os,he.tape,he.output,he.size,λb cV _=>oG b cV,λb o h=>⟨.inl (he.fix b o h).1,(he.fix b o h).2⟩,?_,λ_ h => .inr h,λ_ _ h=>h,he.shape,rfl⟩
  grind
 have cU:zo (λ_=>False) w G w' G':=by
  refine⟨?_,λ_ _ h=>h⟩
  intro b key di _
  have eC:=hf.owlt _ _ di
  grind
 have dt:=hf.ext (G':=G') cR cU hf.gen (λb key h=>aT (hf.owlt b key h) he.size) cV
 have gt:VR N w' G'.fix G'.heap v (dem (frz h' r)):=((OP dE.heap cZ (ns:=Cq r) (λn hn=>hn)).free hr).dem
 exact hk _ _ G' (dt.put nm (BJ ho) (SR.of_pure gt ((OP dE.heap cZ (ns:=Cq r) (λn hn=>hn)).cp_dem))) cR (BK _ _ _)
theorem UB (nm:Names vs (x7 vs ops)) (ho:ops[j]? = some o) (hf:FI N w G st a vs (x7 vs ops)) {cf:yg} (dK:CallOK N P cf) {k:Nat} {args:List PV} {vals:Array Value} {r:PV} {h':List PObj}
  (dc:vals.size=args.length) (hv:∀(i:Nat) (v:Value) (p:PV),vals[i]? = some v→args[i]? = some p→VR N w G.fix G.heap v p) (dH:yq args=true) (hc:cf k args []=some (r,h')) (hr:yt r=true)
  (cT:(execOp a.eval o).run P w = .ok (.enter (N.fn k) vals) w) (hk:yz N w G a st (dem r) vs ops j o next):o.wp P a w next Q:=
 OR nm ho hf dK dc hv dH hc (by simp_all [OQ]) cT (by grind [OQ])
theorem b8n (hf:FI N w G st a vs (x7 vs ops)) {cf:yg} (dK:CallOK N P cf) {k:Nat} {args:List PV} {vals:Array Value} {r:PV} {h':List PObj}
  (dc:vals.size=args.length) (hv:∀(i:Nat) (v:Value) (p:PV),vals[i]? = some v→args[i]? = some p→VR N w G.fix G.heap v p) (hc:cf k args st.heap=some (r,h'))
  (cT:(execOp a.eval o).run P w = .ok (.enter (N.fn k) vals) w) (hk:∀(v:Value) (w':World) (G':GS),FI N w' G' { st with heap:=h' } a vs (x7 vs ops)→VR N w' G'.fix G'.heap v r→Ext w G w' G'→next (a.put o.dst v) w'):o.wp P a w next Q:=by
 unfold Oper.wp
 rw[cT]
 let Gc:GS:={ fix:=G.fix,heap:=G.heap,box:=λ_=>none,ow:=Bk G.ow }
 have dW:Between N w Gc st.heap:=⟨⟨λb k h=>(Gs h).2,λ_=>rfl⟩,hf.fixlt,λb k h=>hf.owlt b k (Gs h).1,hf.heap.sub rfl rfl (λb k hk h=>NU h hk),hf.hdom⟩
 refine((dK.plain k args r st.heap h' hc).2 w Gc vals dW dc hv).mono ?_
 rintro e w' ⟨v,G2,rfl,cZ,he,dE⟩
 let G':GS:={ fix:=G2.fix,heap:=G2.heap,box:=G.box,ow:=λb=>match G.ow b with | some k=>if k.isH then G2.ow b else some k | none=>G2.ow b,df:=G.df }
 have cR:Ext w G w' G':=by
  refine⟨he.os,he.tape,he.output,he.size,λb cV h=>he.same b cV (by simp[Gc,Bk,h]),λb o h=>he.fix b o h,?_,?_,he.heap,he.shape,rfl⟩
  ·intro b o h
   rcases he.newfix b o h with h|h|h<;>grind [Bk]
  ·intro b h
   cases hb:G.ow b with
   | some k=>simp
   | none =>
     simp only[G',hb] at h
     rcases he.own b h with h|h<;>grind [absurd,Bk]
 have cU:zo (λk=>k.isH=true) w G w' G':=by
  refine⟨?_,λ_ _ h=>h⟩
  intro b key di hn
  have eC:=hf.owlt _ _ di
  have eX:Gc.ow b=none:=by grind [Bk]
  refine⟨by grind,he.same b eC eX,?_⟩
  intro o h
  rcases he.newfix b o h with h|h|h<;>grind
 have d7:HR N w' G' h':=by
  refine dE.heap.sub rfl rfl ?_
  intro b k xT h
  cases hb:G.ow b with
  | none=>grind
  | some k0 =>
    by_cases lI:k0.isH=true
    ·grind
    ·have eX:Gc.ow b=none:=by grind [Bk]
     have cV:=hf.owlt _ _ hb
     rcases he.own b (by rw[h]; simp) with h2|h2<;>grind
 have dt:FI N w' G' { st with heap:=h' } a vs (x7 vs ops):=by
  refine⟨hf.len,λi t u h1 h2=>(hf.var i t u h1 h2).keep cR cU (by simp[Key.isH]) (by simp[Key.isH]),λj t u h1 h2=>(hf.loc j t u h1 h2).keep cR cU (by simp[Key.isH]) (by simp ),hf.tv,hf.tl,(hf.defers.trans cR.df.symm),hf.gen,?_,dE.fixlt,d7,dE.hdom⟩
  intro b k h
  cases hb:G.ow b with
  | some k0=>exact aT (hf.owlt _ _ hb) he.size
  | none =>
    simp only[G',hb] at h
    exact dE.owlt _ _ h
 grind
theorem OT (nm:Names vs (x7 vs ops)) (ho:ops[j]? = some o) (hf:FI N w G st a vs (x7 vs ops)) {cf:yg} (dK:CallOK N P cf) {k:Nat} {args:List PV} {vals:Array Value} {r:PV} {h':List PObj}
  (dc:vals.size=args.length) (hv:∀(i:Nat) (v:Value) (p:PV),vals[i]? = some v→args[i]? = some p→VR N w G.fix G.heap v p) (hc:cf k args st.heap=some (r,h'))
  (cT:(execOp a.eval o).run P w = .ok (.enter (N.fn k) vals) w) (hk:yz N w G a { st with heap:=h' } (dem r) vs ops j o next):o.wp P a w next Q:=
 b8n hf dK dc hv hc cT λv w' G' dt cZ cR=>hk _ _ G' (dt.put nm (BJ ho) (SR.of_pure cZ.dem cZ.cp_dem)) cR (BK _ _ _)
theorem FI.freeze {lm:Nat→Option Tmp} (hf:FI N w G st a vs lm) (ns:List Nat):FI N w (G.shut ns st.heap) { st with heap:=BT ns st.heap } a vs lm∧Ext w G w (G.shut ns st.heap):=by
 have own:∀n b cs,G.heap n=some b→st.heap[n]? = some (.cells cs)→G.ow b=some (.hobj n):=by
  intro n b cs h1 h2
  rcases hf.heap.1 n _ h2 with h3|⟨b',k1,k2,_⟩<;>simp_all
 have cR:Ext w G w (G.shut ns st.heap):=by
  refine⟨rfl,rfl,rfl,an _,λ_ _ _=>rfl,λ_ _ h=>⟨.inl h,rfl⟩,?_,λ_ h => .inr h,λ_ _ h=>h,ShapeLe.refl w,rfl⟩
  rintro b o (h|⟨n,_,cs,h1,h2,_⟩)<;>grind
 have cU:zo (λk=>k.isH=true) w G w (G.shut ns st.heap):=by
  refine⟨?_,λ_ _ h=>h⟩
  intro b key hb hn
  refine⟨hb,rfl,?_⟩
  rintro o (h|⟨n,_,cs,h1,h2,_⟩)
  ·exact h
  ·rw[own n b cs h1 h2] at hb
   cases hb
   exact absurd rfl hn
 refine⟨⟨hf.len,λi t u h1 h2=>(hf.var i t u h1 h2).keep cR cU (by simp[Key.isH]) (by simp[Key.isH]),λj t u h1 h2=>(hf.loc j t u h1 h2).keep cR cU (by simp[Key.isH]) (by simp ),hf.tv,hf.tl,hf.defers,hf.gen,hf.owlt,?_,hf.heap.shutG (NN ns st.heap),?_⟩,cR⟩
 ·rintro b o (h|⟨n,_,cs,h1,h2,_⟩)
  ·exact hf.fixlt b o h
  ·exact hf.owlt _ _ (own n b cs h1 h2)
 ·intro n b h
  have:=hf.hdom n b h
  simp_all [NO]
theorem Ey {xs:Array Operand} {us:List PV} (h1:xs.toList.length=us.length) (h2:∀(i:Nat) (x:Operand) (u:PV),xs.toList[i]? = some x→us[i]? = some u→VR N w G.fix G.heap (a.eval x) u∧cp u=some u):
  (xs.map a.eval).size=us.length∧∀(i:Nat) (v:Value) (p:PV),(xs.map a.eval)[i]? = some v→us[i]? = some p→VR N w G.fix G.heap v p:=by
 grind
theorem b9N {L:Nat→Option PFunc} (hF:Ag N P L) (hE:EnvOk E N) (nm:Names vs (x7 vs ops)) (ho:ops[j]? = some o) (hf:FI N w G st a vs (x7 vs ops)) {cf:yg} (dK:CallOK N P cf) (eL:∀k args h r,cf k args h=some r→∃f,L k=some f)
  {f:FuncId} {k:Nat} {xs:Array Operand} {ts:Array TypeId} {pxs:List PX} (cW:o.op = .call { callee := .value (.func f),args:=xs,argTypes:=ts }) (dq:E.inv f=some k) (hx:cxs E vs ops xs.toList=some pxs)
  (hs:opv cf (.pcall k pxs) st=some (u,st1)) (hk:yz N w G a st1 u vs ops j o next):o.wp P a w next Q:=by
 simp only[opv] at hs
 split at hs
 ·rename_i us eF
  split at hs
  ·rename_i dH
   split at hs
   ·rename_i r h' hc
    split at hs
    ·rename_i hr
     obtain⟨rfl,rfl⟩:=hs
     obtain⟨h1,h2⟩:=Ck hE hf hx eF
     obtain⟨g1,g2⟩:=Ey (w:=w) (G:=G) h1 h2
     have fK:=hE.fn _ _ dq
     refine UB nm ho hf dK g1 g2 dH hc hr ?_ hk
     grind [C4,execOp,resolve,Act.eval,Deferred.ofValue,invoke]
    grind
   grind
  grind
 grind
theorem b8o {L:Nat→Option PFunc} (hF:Ag N P L) (hE:EnvOk E N) (nm:Names vs (x7 vs ops)) (ho:ops[j]? = some o) (hf:FI N w G st a vs (x7 vs ops)) {cf:yg} (dK:CallOK N P cf) (eL:∀k args h r,cf k args h=some r→∃f,L k=some f)
  {f:FuncId} {k:Nat} {xs:Array Operand} {ts:Array TypeId} {pxs:List PX} (cW:o.op = .call { callee := .value (.func f),args:=xs,argTypes:=ts }) (dq:E.inv f=some k) (hx:cxs E vs ops xs.toList=some pxs)
  (hs:opv cf (.pzcall k pxs) st=some (u,st1)) (hk:yz N w G a st1 u vs ops j o next):o.wp P a w next Q:=by
 simp only[opv] at hs
 split at hs
 ·rename_i us eF
  split at hs
  ·rename_i dH
   split at hs
   ·rename_i r h' hc
    split at hs
    ·rename_i hr
     obtain⟨rfl,rfl⟩:=hs
     obtain⟨h1,h2⟩:=Ck hE hf hx eF
     obtain⟨g1,g2⟩:=Ey (w:=w) (G:=G) h1 h2
     have fK:=hE.fn _ _ dq
     refine OR nm ho hf dK g1 g2 dH hc hr ?_ hk
     grind [C4,execOp,resolve,Act.eval,Deferred.ofValue,invoke]
    grind
   grind
  grind
 grind
theorem VR.cp_or {N:Nm} {w:World} {fix:Nat→Nat→Prop} {hp:Nat→Option Nat} {v:Value} {p:PV} (h:VR N w fix hp v p):cp p=some p∨∃es,p = .list true es:=by
 cases h with
 | nils o=>cases o<;>simp[cp]
 | void o _ _=>cases o<;>simp[cp]
 | list o _ _ _ _ _ _ _ _ _ _ _ _ _=>cases o<;>simp[cp]
 | _=>exact .inl rfl
theorem UC {E:Env} {vs:List Tmp} {ops:List Oper}:∀{xs:List Operand} {ps:List PX} {i:Nat} {p:PX},cxs E vs ops xs=some ps→ps[i]? = some p→∃x,xs[i]? = some x∧cx E vs ops x=some p
 | [],ps,i,p,h,hp=>by simp_all [cxs]
 | x :: xs, ps, i, p, h, hp => by
   simp only[cxs,aj,ab] at h
   obtain⟨q,h1,qs,h2,rfl⟩:=h
   cases i with
   | zero=>simp at hp; subst hp; exact⟨x,rfl,h1⟩
   | succ i =>
     simpa using(UC (i:=i) h2 (by simpa using hp))
def OU:Value→Option Nat
 | .slice (some a) _ _=>some a.block
 | _=>none
theorem UD (nm:Names vs (x7 vs ops)) (ho:ops[j]? = some o) (hd:yF vs o.dst≠.n) {G0:GS} (xU:Ext w G0 w G) (hf:FI N w G st a vs (x7 vs ops)) {cf:yg} (dK:CallOK N P cf) {k:Nat} {own:Option Nat} {args:List PV} {vals:Array Value} {r:PV} {h':List PObj}
  (dc:vals.size=args.length) (hv:∀(i:Nat) (v:Value) (p:PV),vals[i]? = some v→args[i]? = some p→VR N w G.fix G.heap v p) (dH:yq args=true)
  (dD:∀(i:Nat) (v:Value) (es:List PV),own=some i→vals[i]? = some v→args[i]? = some (.list true es)→Room w G (Ai (yF vs o.dst) j) v es)
  (hc:cf k (BX own args) []=some (r,h')) (hr:yt r=true)
  (cT:(execOp a.eval o).run P w = .ok (.enter (N.fn k) vals) w) (hk:yz N w G0 a st r vs ops j o next):o.wp P a w next Q:=by
 classical
 unfold Oper.wp
 rw[cT]
 let key:=Ai (yF vs o.dst) j
 let Gc:GS:={ fix:=G.fix,heap:=λ_=>none,box:=λ_=>none,ow:=λb=>own.bind λi=>if vals[i]?.bind OU=some b∧G.ow b=some key then some (.var i) else none }
 have vG:∀b k,Gc.ow b=some k→G.ow b=some key∧∃i,own=some i∧k = .var i:=by
  grind [Option.bind_eq_some_iff,Option.some.injEq]
 have dI:OwnIn N w Gc own args vals:=by
  refine⟨λb k h=>(vG b k h).2,λ_=>rfl,λ_=>rfl,hf.fixlt,λb k h=>hf.owlt _ _ (vG b k h).1,hf.heap.2,dc,λi v p h1 h2=>(hv i v p h1 h2).free (D6 dH p (ax h2)),?_⟩
  intro i v es hi xW ga
  have h:=dD i v es hi xW ga
  unfold Room at *
  grind [OU]
 refine((dK.own k own args r h' hc).2 w Gc vals dI).mono ?_
 rintro e w' ⟨v,G2,rfl,cZ,he,gx,i9⟩
 let G':GS:={ G with fix:=G2.fix,ow:=λb=>if (∃es,r = .list true es)∧OU v=some b∧(w.heap.size≤b∨Gc.ow b≠none)∧b<w'.heap.size then some key else G.ow b }
 have eX:∀b k,G.ow b=some k→k≠key→Gc.ow b=none:=by
  intro b k h hn
  cases hx:Gc.ow b<;>simp_all
 have oH:∀b,G.ow b=none→Gc.ow b=none:=by
  intro b h
  cases hx:Gc.ow b<;>simp_all
 have cR:Ext w G w' G':=by
  refine⟨he.os,he.tape,he.output,he.size,λb cV h=>he.same b cV (oH b h),λb o h=>he.fix b o h,?_,?_,λ_ _ h=>h,he.shape,rfl⟩
  ·intro b o h
   rcases he.newfix b o h with h|h|h<;>grind
  grind
 have cU:zo (λk=>k=key) w G w' G':=by
  refine⟨?_,λ_ _ h=>h⟩
  intro b k di hn
  have eC:=hf.owlt _ _ di
  refine⟨?_,he.same b eC (eX b k di hn),?_⟩
  ·grind
  ·intro o h
   rcases he.newfix b o h with h|h|h<;>grind
 have how:∀b k,G'.ow b=some k→b<w'.heap.size:=by
  intro b k h
  simp only[G'] at h
  split at h
  ·omega
  ·exact aT (hf.owlt _ _ h) he.size
 have gt:VR N w' G'.fix G'.heap v r:=cZ.free hr
 have rc:SR N w' G' key v r:=by
  rcases gt.cp_or with h|⟨es,rfl⟩
  ·exact SR.of_pure gt h
  ·refine⟨gt,?_⟩
   have h:=i9 es rfl
   unfold Room
   unfold FJ at h
   split at h
   ·rcases h with h|⟨h1,sz,cs,T,h2,h3,h4⟩
    ·omega
    ·refine .inr ⟨?_,sz,cs,T,h2,h3,h4⟩
     simp only[G']
     rw[ai]
     exact⟨⟨es,rfl⟩,rfl,h1,let ⟨fz,h5,_⟩:=h3; (aZ.1 h5).1⟩
   simp
 exact hk _ _ G' (hf.extDst nm (BJ ho) hd cR cU (λg b h=>hf.gen g b h) how gx rfl rc) (xU.trans cR) (BK _ _ _)
theorem b8p {L:Nat→Option PFunc} (hF:Ag N P L) (hE:EnvOk E N) (nm:Names vs (x7 vs ops)) (ho:ops[j]? = some o) (hd:yF vs o.dst≠.n) (hf:FI N w G st a vs (x7 vs ops)) {cf:yg} (dK:CallOK N P cf) (eL:∀k args h r,cf k args h=some r→∃f,L k=some f)
  {f:FuncId} {k:Nat} {xs:Array Operand} {ts:Array TypeId} {pxs:List PX} {own:Option Nat} (cW:o.op = .call { callee := .value (.func f),args:=xs,argTypes:=ts }) (dq:E.inv f=some k) (hx:cxs E vs ops xs.toList=some pxs)
  (hs:opv cf (.pcallx k pxs own) st=some (u,st1)) (hk:yz N w G a st1 u vs ops j o next):o.wp P a w next Q:=by
 have cT:∀{args:List PV} {h:List PObj} {r},cf k args h=some r→(execOp a.eval o).run P w = .ok (.enter (N.fn k) (xs.map a.eval)) w:=by
  intro args h r hc
  obtain⟨pf,hL⟩:=eL _ _ _ _ hc
  have fK:=hE.fn _ _ dq
  grind [C4,execOp,resolve,Act.eval,Deferred.ofValue,invoke]
 simp only[opv] at hs
 split at hs
 ·split at hs
  ·rename_i us eF
   split at hs
   ·rename_i dH
    split at hs
    ·rename_i r h' hc
     split at hs
     ·rename_i hr
      simp only[aa] at hs
      obtain⟨rfl,rfl⟩:=hs
      obtain⟨h1,h2⟩:=Ck hE hf hx eF
      obtain⟨g1,g2⟩:=Ey (w:=w) (G:=G) h1 h2
      exact UD nm ho hd (Ext.refl _ _) hf dK g1 g2 dH (by simp) hc hr (cT hc) hk
     grind
    grind
   grind
  grind
 ·rename_i i
  split at hs
  ·rename_i v0 st2 us ht eF
   split at hs
   ·rename_i dH
    split at hs
    ·rename_i r h' hc
     split at hs
     ·rename_i hr
      simp only[aa] at hs
      obtain⟨rfl,rfl⟩:=hs
      simp only[aj] at ht
      obtain⟨px,gj,ht⟩:=ht
      obtain⟨h1,h2⟩:=Ck hE hf hx eF
      obtain⟨g1,g2⟩:=Ey (w:=w) (G:=G) h1 h2
      obtain⟨x,mG,lF⟩:=UC hx gj
      obtain⟨G',k1,k2,k3,k4,k5,k6,k7,_⟩:=GG hE lF hf ht (Ai (yF vs o.dst) j)
      refine UD nm ho hd k2 k1 dK (by simp_all) ?_ dH.1 ?_ hc hr (cT hc) hk
      ·intro i' v p hv hp
       rw[k4,k5]
       rw[aU] at hp
       split at hp
       ·simp_all
       grind
      ·intro i' v es hi hv ga
       simp only[aa] at hi
       subst hi
       rw[aU] at ga
       simp only[if_true,dH.2,aa] at ga
       subst ga
       simp only[cA,ab] at hv
       obtain⟨x',fp,rfl⟩:=hv
       have:x'=x:=by simp_all
       subst this
       exact k7
     grind
    grind
   grind
  grind
theorem b9P {L:Nat→Option PFunc} (hF:Ag N P L) (hE:EnvOk E N) (nm:Names vs (x7 vs ops)) (ho:ops[j]? = some o) (hf:FI N w G st a vs (x7 vs ops)) {cf:yg} (dK:CallOK N P cf) (eL:∀k args h r,cf k args h=some r→∃f,L k=some f)
  {t:Tmp} {px:PX} {xs:Array Operand} {ts:Array TypeId} {pxs:List PX} (cW:o.op = .call { callee := .value (.tmp t),args:=xs,argTypes:=ts }) (gj:cx E vs ops (.tmp t)=some px) (hx:cxs E vs ops xs.toList=some pxs)
  (hs:opv cf (.callv px pxs) st=some (u,st1)) (hk:yz N w G a st1 u vs ops j o next):o.wp P a w next Q:=by
 simp only[opv] at hs
 split at hs
 ·rename_i k first captured us mZ eF
  split at hs
  ·rename_i dH
   split at hs
   ·rename_i r h' hc
    split at hs
    ·rename_i hr
     simp only[aa] at hs
     obtain⟨rfl,rfl⟩:=hs
     obtain⟨h1,h2⟩:=Ck hE hf hx eF
     have iQ:=(yH hE gj hf mZ).1
     generalize hv:a.eval (.tmp t)=v at iQ
     cases iQ with
     | yield _ _ _ _ _ _ hy=>rw[(dK.plain _ _ _ _ _ hc).1] at hy; simp at hy
     | func _ fs cs _ _ _ e1 e2 nW dS =>
       refine UB (vals:=fs++xs.map a.eval++cs) nm ho hf dK (by simp_all) ?_ dH hc hr ?_ hk
       ·intro i v p ev hp
        by_cases hi:i<fs.size
        ·grind
        ·grind
       grind [C4,execOp,resolve,Sem.run_bind,Deferred.ofValue,Sem.run_pure,Result.andThen_ok,invoke]
    grind
   grind
  grind
 grind
theorem UE {L:Nat→Option PFunc} (hF:Ag N P L) (hE:EnvOk E N) (nm:Names vs (x7 vs ops)) (ho:ops[j]? = some o) (hf:FI N w G st a vs (x7 vs ops)) {cf:yg} (dK:CallOK N P cf) (eL:∀k args h r,cf k args h=some r→∃f,L k=some f)
  {f:FuncId} {k:Nat} {xs:Array Operand} {ts:Array TypeId} {pxs:List PX} (cW:o.op = .call { callee := .value (.func f),args:=xs,argTypes:=ts }) (dq:E.inv f=some k) (hx:cxs E vs ops xs.toList=some pxs)
  (hs:x9 cf (.call k pxs) st=some (u,st1)) (hk:yz N w G a st1 u vs ops j o next):o.wp P a w next Q:=by
 simp only[x9,aj,ab] at hs
 obtain⟨us,eF,⟨r,h'⟩,hc,rfl,rfl⟩:=hs
 obtain⟨h1,h2⟩:=Ck hE hf hx eF
 obtain⟨g1,g2⟩:=Ey (w:=w) (G:=G) h1 h2
 have fK:=hE.fn _ _ dq
 refine OT nm ho hf dK g1 g2 hc ?_ hk
 grind [C4,execOp,resolve,Act.eval,Deferred.ofValue,invoke]
theorem b9Q {L:Nat→Option PFunc} (hF:Ag N P L) (hE:EnvOk E N) (nm:Names vs (x7 vs ops)) (ho:ops[j]? = some o) (hf:FI N w G st a vs (x7 vs ops)) {cf:yg} (dK:CallOK N P cf) (eL:∀k args h r,cf k args h=some r→∃f,L k=some f)
  {f:FuncId} {k:Nat} {xs:Array Operand} {ts:Array TypeId} {pxs:List PX} (cW:o.op = .call { callee := .value (.func f),args:=xs,argTypes:=ts }) (dq:E.inv f=some k) (hx:cxs E vs ops xs.toList=some pxs)
  (hs:x9 cf (.zcall k pxs) st=some (u,st1)) (hk:yz N w G a st1 u vs ops j o next):o.wp P a w next Q:=by
 simp only[x9,aj] at hs
 obtain⟨us,eF,hs⟩:=hs
 split at hs
 ·rename_i dH
  simp only[aj] at hs
  obtain⟨⟨r,h'⟩,hc,hs⟩:=hs
  split at hs
  ·rename_i hr
   obtain⟨rfl,rfl⟩:=hs
   obtain⟨h1,h2⟩:=Ck hE hf hx eF
   obtain⟨g1,g2⟩:=Ey (w:=w) (G:=G) h1 h2
   have fK:=hE.fn _ _ dq
   obtain⟨dt,mG⟩:=hf.freeze (Dw us)
   rw[GJ] at hc dH
   refine OR nm ho dt dK (vals:=xs.map a.eval) (by simp_all) ?_ dH hc hr ?_ λa' w' G2 k1 k2 k3=>hk a' w' G2 k1 (mG.trans k2) k3
   ·intro i v p hv hp
    rw[aF,ab] at hp
    obtain⟨q,hq,rfl⟩:=hp
    refine OP hf.heap (g2 i v q hv hq) (λn hn =>?_)
    grind [GK,List.mem_of_getElem?]
   grind [C4,execOp,resolve,Act.eval,Deferred.ofValue,invoke]
  grind
 grind
theorem c9n (T:TypeId) (ad:Addr) (a b:String):Builtin.ssaWrapNilChk_ #[T] T #[.pointer (some ad),strVal a,strVal b]=pure (.pointer (some ad)):=rfl
theorem c17 {T e:TypeId} {m:Method} {i:TypeInfo} {f:FuncId} {pr:Bool} {v r:Value} {name:String} (hi:P.info? T=some i) (hm:i.methods.find? (·.name==name)=some m) (hp:m.path.isEmpty=true) (fK:m.func=some (f,pr))
  (hu:P.underlying T=some (.pointer e)) (hr:(pr=true∧r=v)∨(pr=false∧∃ad,v = .pointer (some ad)∧(loadVar e ad).run P w = .ok r w)) (n:Nat):(method (n+1) T v name).run P w = .ok (f,r) w:=by
 have fk:m.path.toList=[]:=by simp_all
 have ir:=run_underlying hu w
 simp only[method,Sem.run_bind,(run_typeInfo w hi),Result.andThen_ok,hm,fk,follow]
 rcases hr with⟨rfl,rfl⟩|⟨rfl,ad,rfl,hl⟩<;>simp_all [receiverAt,Place.get,c9n,asAddr]
theorem OV {E:Env} {name:String} {t:Nat} {r:Nat×Option (Nat×Bool)}:∀{Ts:List TypeId},Cr t (FH E name Ts)=some r→∃T i,zG T E.pt 0=some i∧t=i+1∧mOf E name T=some r
 | [],h=>by simp[FH,Cr] at h
 | T :: Ts, h => by
   unfold FH at h
   split at h
   ·rename_i i q hi hq
    unfold Cr at h
    split at h
    ·rename_i e
     simp only[aa] at h; subst h
     exact⟨T,i,hi,e.symm,hq⟩
    ·exact OV h
   ·exact OV h
theorem b9R {L:Nat→Option PFunc} (hF:Ag N P L) (hE:EnvOk E N) (hP:E.P=P) (nm:Names vs (x7 vs ops)) (ho:ops[j]? = some o) (hf:FI N w G st a vs (x7 vs ops)) {cf:yg} (dK:CallOK N P cf) (eL:∀k args h r,cf k args h=some r→∃f,L k=some f)
  {name:String} {x:Operand} {px:PX} {xs:Array Operand} {ts:Array TypeId} {pxs:List PX} (cW:o.op = .call { callee := .invoke x name,args:=xs,argTypes:=ts }) (gj:cx E vs ops x=some px) (hx:cxs E vs ops xs.toList=some pxs)
  (hs:x9 cf (.icall (FH E name E.pt) px pxs) st=some (u,st1)) (hk:yz N w G a st1 u vs ops j o next):o.wp P a w next Q:=by
 subst hP
 simp only[x9,aj,ab,ac] at hs
 obtain⟨⟨k,rv⟩,hm,us,eF,⟨r,h'⟩,hc,rfl,rfl⟩:=hs
 unfold BU at hm
 split at hm
 ·rename_i t v hp
  simp only[aj,ab,ac] at hm
  obtain⟨⟨k',d⟩,uy,rv',pB,rfl,rfl⟩:=hm
  obtain⟨T,i,hi,rfl,m5⟩:=OV uy
  have hv:=(yH hE gj hf hp).1
  obtain⟨h1,h2⟩:=Ck hE hf hx eF
  obtain⟨g1,g2⟩:=Ey (w:=w) (G:=G) h1 h2
  obtain⟨pf,hL⟩:=eL _ _ _ _ hc
  generalize fB:a.eval x=z at hv
  cases hv with
  | iface _ v0 _ hv =>
    obtain⟨f,pr,m,ti,e,pC,k1,k2,k3,k4,k5,rr,k6,k7⟩:∃(f:FuncId) (pr:Bool) (m:Method) (ti:TypeInfo) (e:TypeId),N.fn k'=f∧E.P.info? T=some ti∧ti.methods.find? (·.name==name)=some m∧m.path.isEmpty=true∧m.func=some (f,pr)∧E.P.underlying T=some (.pointer e) ∧
      ∃r:Value,((pr=true∧r=v0)∨(pr=false∧∃ad,v0 = .pointer (some ad)∧(loadVar e ad).run E.P w = .ok r w))∧VR N w G.fix G.heap r rv':=by
     unfold mOf at m5
     split at m5
     ·rename_i m rm
      simp only[aj] at rm
      obtain⟨ti,a1,a2⟩:=rm
      split at m5
      ·rename_i a3
       split at m5
       ·rename_i f e a4 a5
        simp only[ab,ac] at m5
        obtain⟨k0,a6,rfl,rfl⟩:=m5
        simp only[CH,aa] at pB
        subst pB
        exact⟨f,true,m,ti,e,hE.fn _ _ a6,a1,a2,a3,a4,a5,v0,.inl ⟨rfl,rfl⟩,hv.dem⟩
       ·rename_i f e a4 a5
        simp only[aj,ab,ac] at m5
        obtain⟨k0,a6,n,a7,rfl,rfl⟩:=m5
        simp only[CH] at pB
        split at pB
        ·rename_i mm off
         simp only[aj] at pB
         obtain⟨cs,hg,tR⟩:=pB
         cases hv with
         | ptr _ _ b hb =>
           have eW:n≠0:=by grind [A8]
           obtain⟨eJ,gM,cv,TT,hh,hl,fc⟩:=FQ hf hg hb
           obtain⟨hR,hcell⟩:=NQ hh hl fc
           obtain⟨q1,q2,q3⟩:=Gp hR tR eW (Ev a7)
           have cT:=Gq (w:=w) a7 b off ((cv.toList.take cs.length).drop off) (by grind) (λj v hv=>by
            simp_all)
           exact⟨f,false,m,ti,e,hE.fn _ _ a6,a1,a2,a3,a4,a5,_,.inr ⟨rfl,_,rfl,cT⟩,q2⟩
        grind
       grind
      grind
     grind
    have dh:=C4 hF hL (#[rr]++xs.map a.eval) w
    rw[pC] at dh
    refine OT (vals := #[rr]++xs.map a.eval) nm ho hf dK (by grind) ?_ hc ?_ hk
    ·grind
    ·have uz:∃n,E.P.types.size+Made.depth=n+1:=⟨E.P.types.size+Made.depth - 1,by simp[Made.depth]⟩
     obtain⟨fu,uz⟩:=uz
     have nU:(xs.map a.eval).extract 0 xs.size=xs.map a.eval:=by
      simp
     have h0:(#[Value.iface T v0]++xs.map a.eval)[0]? = some (.iface T v0):=by
      grind
     rw[pC]
     simp only[execOp,cW,resolve,fB,(hE.pt T i hi),invoke,callMethod]
     simp[uz,h0,(c17 (w:=w) k1 k2 k3 k4 k5 k6),nU,dh]
 grind
theorem b8q {L:Nat→Option PFunc} (hF:Ag N P L) (hE:EnvOk E N) (nm:Names vs (x7 vs ops)) (ho:ops[j]? = some o) (hf:FI N w G st a vs (x7 vs ops)) {cf:yg} (dK:CallOK N P cf) (eL:∀k args h r,cf k args h=some r→∃f,L k=some f)
  {t:Tmp} {px:PX} {xs:Array Operand} {ts:Array TypeId} {pxs:List PX} (cW:o.op = .call { callee := .value (.tmp t),args:=xs,argTypes:=ts }) (gj:cx E vs ops (.tmp t)=some px) (hx:cxs E vs ops xs.toList=some pxs)
  (hs:x9 cf (.callv px pxs) st=some (u,st1)) (hk:yz N w G a st1 u vs ops j o next):o.wp P a w next Q:=by
 simp only[x9] at hs
 split at hs
 ·rename_i k first captured us mZ eF
  simp only[ab] at hs
  obtain⟨⟨r,h'⟩,hc,rfl,rfl⟩:=hs
  obtain⟨h1,h2⟩:=Ck hE hf hx eF
  have iQ:=(yH hE gj hf mZ).1
  generalize hv:a.eval (.tmp t)=v at iQ
  cases iQ with
  | yield _ _ _ _ _ _ hy=>rw[(dK.plain _ _ _ _ _ hc).1] at hy; simp at hy
  | func _ fs cs _ _ _ e1 e2 nW dS =>
    refine OT (vals:=fs++xs.map a.eval++cs) nm ho hf dK (by simp_all) ?_ hc ?_ hk
    ·intro i v p ev hp
     by_cases hi:i<fs.size
     ·grind
     grind
    grind [C4,execOp,resolve,Sem.run_bind,Deferred.ofValue,Sem.run_pure,Result.andThen_ok,invoke]
 grind
theorem c37 {L:Nat→Option PFunc} (hF:Ag N P L) (hE:EnvOk E N) (hP:E.P=P) (nm:Names vs (x7 vs ops)) (ho:ops[j]? = some o) (hf:FI N w G st a vs (x7 vs ops)) {cf:yg} (dK:CallOK N P cf)
  (eL:∀k args h r,cf k args h=some r→∃f,L k=some f) {po:HOp} (hc:NM E vs ops o=some po) (hs:x9 cf po st=some (u,st1)) (hk:yz N w G a st1 u vs ops j o next):o.wp P a w next Q:=by
 subst hP
 unfold NM at hc
 split at hc
 ·grind [Option.map_eq_some_iff,b8r]
 ·grind [Option.bind_eq_some_iff,Option.map_eq_some_iff,b8s]
 ·rename_i t x cW
  split at hc
  ·grind [Option.bind_eq_some_iff,Option.map_eq_some_iff,Bool.not_eq_true',b9W,UF]
  grind [Option.bind_eq_some_iff,Option.map_eq_some_iff,b9U]
 ·grind [Option.bind_eq_some_iff,Option.map_eq_some_iff,b6D,UG]
 ·rename_i t len parts cW
  split at hc<;>grind [Option.map_eq_some_iff,b9X]
 ·grind [Option.some.injEq,b9S]
 ·rename_i t m k ok cW
  split at hc
  ·rename_i kt e hu
   simp only[aj,ab] at hc
   obtain⟨kk,fF,z,hz,p,hp,q,hq,rfl⟩:=hc
   grind [b8v]
  grind
 ·rename_i t m k v cW
  split at hc
  ·rename_i kt e hu
   split at hc
   ·rename_i hd
    simp only[aj,ab] at hc
    obtain⟨kk,fF,p,hp,q,hq,r,hr,rfl⟩:=hc
    grind [UH]
   grind
  grind
 ·rename_i t m k v cW
  split at hc
  ·rename_i kt e hu
   split at hc
   ·rename_i hd
    simp only[aj,ab] at hc
    obtain⟨kk,fF,p,hp,q,hq,r,hr,rfl⟩:=hc
    exact UH hE nm ho hf (.inr cW) hd hu fF hp hq hr hs hk
   grind
  grind
 ·grind [Option.bind_eq_some_iff,Option.map_eq_some_iff,b9T]
 ·grind [Option.map_eq_some_iff,b8x]
 ·rename_i t l c' cW
  split at hc
  ·rename_i e hu
   split at hc
   ·grind [Bool.not_eq_false',Option.map_eq_some_iff,b6F,b9V]
   grind
  grind
 ·rename_i t parts cW
  split at hc
  ·rename_i fs hu
   simp only at hc
   split at hc<;>grind [Option.map_eq_some_iff,b8y,c3q,d3l]
  grind
 ·rename_i fn xs ys cW
  split at hc
  ·simp at hc
  ·simp only[aj,ab] at hc
   obtain⟨f,fK,k,dq,ps,fo,qs,lZ,rfl⟩:=hc
   have:fn = .func f:=by
    unfold S8 at fK
    grind
   grind [b8w]
 ·rename_i args ts cW
  obtain⟨args⟩:=args
  obtain⟨ts⟩:=ts
  split at hc
  ·rename_i s x t1 t2 ep ff
   simp only at ep ff
   subst ep ff
   split at hc
   ·split at hc
    ·grind [Option.bind_eq_some_iff,Option.map_eq_some_iff,c2e]
    ·rename_i e k0 hu ij
     split at hc
     ·rename_i size z hn hz
      simp only[aj,ab] at hc
      obtain⟨p,hp,q,hq,rfl⟩:=hc
      exact b9Y hE nm ho hf cW hu ij hn hz hp hq hs hk
     ·simp at hc
    ·simp at hc
   grind
  grind
 ·rename_i args ts cW
  obtain⟨args⟩:=args
  obtain⟨ts⟩:=ts
  split at hc
  ·rename_i x t rest ep ff
   simp only at ep ff
   subst ep ff
   split at hc
   ·rename_i e hu
    split at hc
    ·rename_i eW
     simp only[aj,ab] at hc
     obtain⟨size,hn,z,hz,p,hp,rfl⟩:=hc
     have eI:o.dst=none:=by
      unfold isN yF at eW
      grind
     grind [b9Z]
    grind
   grind
  grind
 ·rename_i f args ts cW
  split at hc
  ·simp only[aj,ab] at hc
   obtain⟨k,dq,ps,fo,rfl⟩:=hc
   split at hs
   ·refine UE hF hE nm ho hf dK eL cW dq fo ?_ hk
    simp only[x9,aj,same] at hs ⊢
    obtain⟨us,h1,r,h2,h3⟩:=hs
    split at h3
    ·rename_i he
     simp only[aa] at h3
     obtain⟨rfl,rfl⟩:=h3
     exact⟨us,h1,by rw[h2,aH,he]⟩
    grind
   grind [b9Q,UE]
  grind
 ·grind [Option.bind_eq_some_iff,Option.map_eq_some_iff,b9R]
 ·rename_i t args ts cW
  split at hc
  ·simp only[aj,ab] at hc
   obtain⟨p,hp,ps,fo,rfl⟩:=hc
   exact b8q hF hE nm ho hf dK eL cW hp fo hs hk
  ·simp at hc
 ·simp at hc
theorem c6f {L:Nat→Option PFunc} (hF:Ag N P L) (hE:EnvOk E N) (hP:E.P=P) (nm:Names vs (x7 vs ops)) (ho:ops[j]? = some o) (hf:FI N w G st a vs (x7 vs ops)) {cf:yg} (dK:CallOK N P cf)
  (eL:∀k args h r,cf k args h=some r→∃f,L k=some f) {po:POp} (hc:cOp E vs ops o=some po) (hs:opv cf po st=some (u,st1)) (hk:yz N w G a st1 u vs ops j o next):o.wp P a w next Q:=by
 unfold cOp at hc
 simp only at hc
 split at hc
 ·rename_i h tN
  simp only[aa] at hc
  subst hc
  exact c37 hF hE hP nm ho hf dK eL tN (by assumption) hk
 rename_i eX
 subst hP
 split at hc
 ·
  rename_i x cW
  simp only[ab] at hc
  obtain⟨p,hp,rfl⟩:=hc
  split at hs
  ·exact Uu hE nm ho hf (by simp[execOp,cW]) hp (by assumption) hk
  ·exact c31 hE nm ho hf (by simp[execOp,cW]) hp (by assumption) hk
 ·rename_i x cW
  simp only[ab] at hc
  obtain⟨p,hp,rfl⟩:=hc
  exact Uu hE nm ho hf (by simp[execOp,cW]) hp (by assumption) hk
 ·grind [Option.bind_eq_some_iff,Option.map_eq_some_iff,c1X]
 ·grind [Option.map_eq_some_iff,b8i]
 ·grind [Option.bind_eq_some_iff,Option.map_eq_some_iff,b8j]
 ·grind [Option.map_eq_some_iff,Ut]
 ·grind [Option.map_eq_some_iff,b6v]
 ·grind [Option.bind_eq_some_iff,Option.map_eq_some_iff,c14]
 ·grind [Option.bind_eq_some_iff,Option.map_eq_some_iff,b9K]
 ·grind [Option.bind_eq_some_iff,Option.map_eq_some_iff,b9J]
 ·grind [Option.bind_eq_some_iff,Option.map_eq_some_iff,b79]
 ·grind [Option.bind_eq_some_iff,Option.map_eq_some_iff,b4O]
 ·rename_i t x lo hi cW
  grind [Option.bind_eq_some_iff,Option.map_eq_some_iff,b8f,b8g]
 ·rename_i op t x y t' cW
  split at hc
  ·grind [Option.bind_eq_some_iff,Option.map_eq_some_iff,c6c,Um]
  grind [Option.bind_eq_some_iff,Option.map_eq_some_iff,Um]
 ·grind [Option.map_eq_some_iff,c6d]
 ·grind [Option.map_eq_some_iff,b6s]
 ·grind [Option.bind_eq_some_iff,Option.map_eq_some_iff,c1Z]
 ·grind [Option.bind_eq_some_iff,Option.map_eq_some_iff,c10]
 ·grind [Option.map_eq_some_iff,b6t]
 ·rename_i b args ts cW
  split at hc
  ·simp at hc
  ·rename_i dl
   have kG:yF vs o.dst≠.n:=by grind [isN]
   obtain⟨args⟩:=args
   obtain⟨ts⟩:=ts
   unfold S7 at hc
   split at hc
   ·rename_i x t rest hb ep ff
    simp only at ep ff
    subst ep ff
    split at hc
    ·rename_i hu
     simp only[ab] at hc
     obtain⟨p,hp,rfl⟩:=hc
     exact Uo hE nm ho hf cW rfl (str:=true) (by simp_all) hp hs hk
    ·rename_i e hu
     simp only[ab] at hc
     obtain⟨p,hp,rfl⟩:=hc
     exact Uo hE nm ho hf cW rfl (str:=false) (by simp_all) hp hs hk
    grind
   ·grind [Option.map_eq_some_iff,Ur]
   ·grind [Option.map_eq_some_iff,Ur]
   ·rename_i x t rest hb ep ff
    simp only at ep ff
    subst ep ff
    split at hc
    ·rename_i e hu
     simp only[ab] at hc
     obtain⟨p,hp,rfl⟩:=hc
     exact c32 hE nm ho hf cW rfl hu hp hs hk
    grind
   ·rename_i s x t1 t2 hb ep ff
    grind [Option.bind_eq_some_iff,Option.map_eq_some_iff,b8l]
   grind
 ·rename_i f args ts cW
  simp only[aj,ab] at hc
  obtain⟨k,dq,ps,fo,rfl⟩:=hc
  split at hs
  ·split at hs
   ·simp[Eu,opv,rd,raw,cp] at hs
   ·rename_i dl
    exact b8p hF hE nm ho (by grind [isN]) hf dK eL cW dq fo hs hk
  grind [b8o,b9N]
 ·rename_i t args ts cW
  simp only[aj,ab] at hc
  obtain⟨p,hp,ps,fo,rfl⟩:=hc
  exact b9P hF hE nm ho hf dK eL cW hp fo hs hk
 ·simp at hc
end
section
variable {E:Env} {N:Nm} {w:World} {G:GS} {st:St} {a:Act} {vs:List Tmp} {P:Program} {ops:Array Oper}
variable {o:Oper} {j:Nat} {Q:Exit→Act→World→Prop} {st1:St}
abbrev Next1 (N:Nm) (w:World) (G:GS) (a:Act) (st1:St) (vs:List Tmp) (ops:List Oper) (K:Act→World→Prop):Prop:=
 ∀a' w' G',FI N w' G' st1 a' vs (x7 vs ops)→Ext w G w' G'→a'.tmps.size=a.tmps.size→K a' w'
theorem Kc {L:Nat→Option PFunc} (hF:Ag N P L) (hE:EnvOk E N) (hP:E.P=P) (nm:Names vs (x7 vs ops.toList)) (ho:ops[j]? = some o) (hf:FI N w G st a vs (x7 vs ops.toList)) {cf:yg} (dK:CallOK N P cf)
  (eL:∀k args h r,cf k args h=some r→∃f,L k=some f) {po:PO} (hc:FE E vs ops.toList o=some po) (hs:zf cf j po st=some st1) {K:Act→World→Prop} (hk:Next1 N w G a st1 vs ops.toList K):wpOp P ops Q j K a w:=by
 have eA:ops.toList[j]? = some o:=by simpa using ho
 simp only[FE,ab] at hc
 obtain⟨g,hg,rfl⟩:=hc
 generalize pn:(cOp E vs ops.toList o).getD Eu=p at hs
 unfold wpOp
 simp only[ho]
 have run:∀{st1},(opv cf p st).map (λr=>put r.2 j (yF vs o.dst) r.1)=some st1→Next1 N w G a st1 vs ops.toList K→o.wp P a w K Q:=by
  intro st1 h hk
  simp only[ab] at h
  obtain⟨⟨u,st2⟩,h1,rfl⟩:=h
  cases gc:cOp E vs ops.toList o with
  | none =>
    rw[gc] at pn
    simp only[Option.getD_none] at pn
    subst pn
    simp[Eu,opv,rd,raw,cp] at h1
  | some p' =>
    rw[gc] at pn
    simp only[Option.getD_some] at pn
    subst pn
    exact c6f hF hE hP nm eA hf dK eL gc h1 hk
 unfold S9 at hg
 split at hg
 ·rename_i ug
  simp at hg; subst hg
  simp only[zf] at hs
  rw[ai (by simp[Region.wanted,ug])]
  exact .inl (run hs hk)
 ·rename_i jj want vC
  split at hg
  ·rename_i og vD
   split at hg
   ·rename_i t ht
    simp only[ab] at hg
    obtain⟨px,gj,rfl⟩:=hg
    simp only[zf] at hs
    split at hs
    ·rename_i b hb
     have fB:=(yH hE gj hf hb).1
     have fq:a.eval (.tmp t) = .bool b:=by generalize a.eval (.tmp t)=z at fB; cases fB; rfl
     have hy:yielded ops a.tmps jj=some b:=by
      have h1:ops[jj]? = some og:=by simpa using vD
      have h2:a.tmps[t]? = some (.bool b):=by
       simp only[Act.eval,aV] at fq
       cases h:a.tmps[t]? with
       | none=>rw[h] at fq; simp[undef] at fq
       | some z=>rw[h] at fq; simpa using fq
      simp[yielded,h1,ht,h2]
     have hw:Region.wanted o (yielded ops a.tmps)=(b==want):=by
      simp[Region.wanted,vC,hy]
     rw[hw]
     split at hs
     ·rename_i ou
      rw[ai (by simpa using ou)]
      exact .inl (run hs hk)
     ·rename_i ou
      rw[ae (by simpa using ou)]
      simp at hs; subst hs
      exact hk _ _ G (hf.put nm (BJ eA) (.tuple #[] [] rfl (by intro i c p h _; simp at h))) (Ext.refl _ _) (BK _ _ _)
    ·rename_i hb
     have fB:=(yH hE gj hf hb).1
     have fq:a.eval (.tmp t) = .tuple #[]:=by
      generalize a.eval (.tmp t)=z at fB
      cases fB with
      | tuple cs _ cS _=>simp at cS; rw[cS]
     have hy:yielded ops a.tmps jj=none:=by
      have h1:ops[jj]? = some og:=by simpa using vD
      simp only[Act.eval,aV] at fq
      cases h:a.tmps[t]? with
      | none=>simp[yielded,h1,ht,h]
      | some z=>rw[h] at fq; simp at fq; subst fq; simp[yielded,h1,ht,h]
     have hw:Region.wanted o (yielded ops a.tmps)=false:=by
      simp[Region.wanted,vC,hy]
     rw[hw]
     simp at hs; subst hs
     exact hk _ _ G (hf.put nm (BJ eA) (.tuple #[] [] rfl (by intro i c p h _; simp at h))) (Ext.refl _ _) (BK _ _ _)
    ·simp at hs
   ·simp at hg
  ·simp at hg
theorem Next1.trans {w':World} {G':GS} {a':Act} {K:Act→World→Prop} {vs':List Tmp} {ops':List Oper} (h:Next1 N w G a st1 vs' ops' K) (e:Ext w G w' G') (hs:a'.tmps.size=a.tmps.size):Next1 N w' G' a' st1 vs' ops' K:=
 λa2 w2 G2 h1 h2 h3=>h a2 w2 G2 h1 (e.trans h2) (h3.trans hs)
theorem E5:∀{os:List Oper} {pos:List PO} {ops:List Oper},Er E vs ops os=some pos→os.length=pos.length∧∀(i:Nat) (o:Oper),os[i]? = some o→∃p,pos[i]? = some p∧FE E vs ops o=some p
 | [],pos,ops,h=>by simp[Er] at h; subst h; simp
 | o :: os, pos, ops, h => by
   simp only[Er,aj,ab] at h
   obtain⟨p,hp,ps,fo,rfl⟩:=h
   obtain⟨h1,h2⟩:=E5 fo
   refine⟨by simp[h1],?_⟩
   intro i o' eA
   cases i with
   | zero=>simp at eA; subst eA; exact⟨p,rfl,hp⟩
   | succ i=>simpa using h2 i o' (by simpa using eA)
noncomputable def Ah (cf:yg) (pos:List PO):List Nat→St→Option St
 | [],st=>some st
 | i :: l, st =>
   match pos[i]? with
   | some p=>(zf cf i p st).bind (Ah cf pos l)
   | none=>none
theorem J9 {cf:yg} {all:List PO}:∀{pos:List PO} {j:Nat} {st:St},all.drop j=pos→AL cf j pos st=Ah cf all (List.range' j pos.length) st
 | [],j,st,_=>by simp[AL,Ah]
 | p :: pos, j, st, h => by
   have h1:all[j]? = some p:=by
    have:=aI List.head? h; simpa[List.head?_drop] using this
   have h2:all.drop (j+1)=pos:=by have:=aI List.tail h; simpa[List.tail_drop] using this
   simp only[AL,aB,List.range'_succ,Ah,h1]
   congr 1
   funext st'
   exact J9 h2
theorem NA {L:Nat→Option PFunc} (hF:Ag N P L) (hE:EnvOk E N) (hP:E.P=P) (nm:Names vs (x7 vs ops.toList)) {cf:yg} (dK:CallOK N P cf)
  (eL:∀k args h r,cf k args h=some r→∃f,L k=some f) {pos:List PO} (hc:Er E vs ops.toList ops.toList=some pos):
  ∀{l:List Nat} {st st':St} {w:World} {G:GS} {a:Act},Ah cf pos l st=some st'→FI N w G st a vs (x7 vs ops.toList)→Next1 N w G a st' vs ops.toList (Q .normal)→wpOps P ops Q l a w
 | [], st, st', w, G, a, h, hf, hk => by
   simp[Ah] at h; subst h
   exact hk _ _ G hf (Ext.refl _ _) rfl
 | i :: l, st, st', w, G, a, h, hf, hk => by
   simp only[Ah] at h
   split at h
   ·rename_i p hp
    simp only[aj] at h
    obtain⟨st1,h1,h2⟩:=h
    have cV:i<ops.toList.length:=by rw[(E5 hc).1]; exact(ah.1 hp).1
    obtain⟨p',fk,gc⟩:=(E5 hc).2 i ops.toList[i] (am cV)
    have:p'=p:=by rw[hp] at fk; simpa using fk.symm
    subst this
    rw[wpOps_cons]
    refine Kc hF hE hP nm (o:=ops.toList[i]) (by simp) hf dK eL gc h1 ?_
    intro a' w' G' iy he hs
    exact NA hF hE hP nm dK eL hc h2 iy (hk.trans he hs)
   ·simp at h
end
theorem NC {t:Tmp} {vs:List Tmp} {i:Nat} (h:vs[i]? = some t):∀n,(zG t vs n).isSome=true:=by
 induction vs generalizing i with
 | nil=>simp at h
 | cons x xs ih =>
   intro n
   simp only[zG]
   split
   ·rfl
   ·rename_i da
    cases i with
    | zero=>simp at h; exact absurd h da
    | succ i=>exact ih (by simpa using h) (n+1)
theorem Uk {vs:List Tmp}:∀{ops:List Oper},E2 vs ops=true→∀(j j':Nat) (o o':Oper) (t:Tmp),ops[j]? = some o→ops[j']? = some o'→o.dst=some t→o'.dst=some t→(zG t vs 0).isSome=false→j=j'
 | [],_,j,_,_,_,_,h,_,_,_,_=>by simp at h
 | x :: xs, h, j, j', o, o', t, h1, h2, h3, h4, h5 => by
   simp only[E2,ao] at h
   obtain⟨ha,hb⟩:=h
   have key:∀(m:Nat) (p:Oper),xs[m]? = some p→x.dst=some t→p.dst≠some t:=by
    intro m p hm hx
    rw[hx] at ha
    simp only[h5,Bool.false_or,aJ,bne_iff_ne,ne_eq] at ha
    exact ha p (ax hm)
   cases j with
   | zero =>
     simp at h1; subst h1
     cases j' with
     | zero=>rfl
     | succ m=>exact absurd h4 (key m o' (by simpa using h2) h3)
   | succ m =>
     cases j' with
     | zero=>simp at h2; subst h2; exact absurd h3 (key m o (by simpa using h1) h4)
     | succ m'=>rw[Uk hb m m' o o' t (by simpa using h1) (by simpa using h2) h3 h4 h5]
theorem J8 {vs:List Tmp} {ops:List Oper} (hn:vs.Nodup) (ho:E2 vs ops=true):Names vs (x7 vs ops):=by
 have sp:∀j t,x7 vs ops j=some t→∃o,ops[j]? = some o∧o.dst=some t∧(zG t vs 0).isSome=false:=by
  intro j t h
  unfold x7 at h
  split at h
  ·rename_i o ho
   split at h
   ·rename_i t' mf
    split at h
    ·simp at h
    ·rename_i hi
     simp at h; subst h
     exact⟨o,ho,mf,by simpa using hi⟩
   ·simp at h
  ·simp at h
 refine⟨?_,?_,?_⟩
 ·intro i i' t h1 h2
  obtain⟨hi,e1⟩:=ah.1 h1
  obtain⟨iU,e2⟩:=ah.1 h2
  exact(List.getElem_inj hn).1 (e1.trans e2.symm)
 ·intro j t i h1 h2
  obtain⟨o,_,_,h3⟩:=sp j t h1
  have:=NC h2 0
  rw[h3] at this; simp at this
 ·intro j j' t h1 h2
  obtain⟨o,a1,a2,a3⟩:=sp j t h1
  obtain⟨o',b1,b2,_⟩:=sp j' t h2
  exact Uk ho j j' o o' t a1 b1 a2 b2 a3
abbrev Km (p:PO) (st st':St):Prop:=Sim p.op (Cm p) st st'
theorem Iw (p:PO):∀x∈yQ p.op,x∈Cm p:=λx hx=>by simp only[Cm,ay]; exact .inr hx
theorem Oc (o:POp):∀x∈A9 o,x∈yQ o:=by
 intro x hx
 cases o with
 | h o=>cases o<;>simp[A9,yQ,zC] at hx ⊢; exact .inl hx
 | take y=>simpa[A9,yQ] using hx
 | append a b c d=>simp[A9,yQ] at hx ⊢; exact .inl hx
 | pcallx k xs own =>
   cases own with
   | none=>simp[A9] at hx
   | some i=>simp only[A9,Option.mem_toList] at hx; exact ax hx
 | _=>simp[A9] at hx
theorem Tz {cf:yg} {j:Nat} {p:PO} {st st1:St} (hm:yR p.op≠2) (h:zf cf j p st=some st1):
  ∃(d:Dm) (u:PV),st1=put (d.app st) j p.dst u∧B6 p.op d∧∀st',Km p st st'→zf cf j p st'=some (put (d.app st') j p.dst u):=by
 have run:(opv cf p.op st).map (λr=>put r.2 j p.dst r.1)=some st1→∃(d:Dm) (u:PV),st1=put (d.app st) j p.dst u∧B6 p.op d∧∀st',Km p st st'→(opv cf p.op st').map (λr=>put r.2 j p.dst r.1)=some (put (d.app st') j p.dst u):=by
  intro h
  simp only[ab] at h
  obtain⟨⟨u,st2⟩,h1,rfl⟩:=h
  obtain⟨d,e,hf,hs⟩:=d2e (rs:=Cm p) hm (Iw p) h1
  exact ⟨d,u,by rw[e],hf,λst' dR=>by rw[hs st' dR]; rfl⟩
 unfold zf at h
 split at h
 ·rename_i hg
  obtain⟨d,u,h1,h2,h3⟩:=run h
  exact ⟨d,u,h1,h2,λst' hs=>by simp only[zf,hg]; exact h3 st' hs⟩
 ·rename_i x want hg
  have hx:x∈Cm p:=by simp[Cm,hg]
  split at h
  ·rename_i b hb
   split at h
   ·rename_i ou
    obtain⟨d,u,h1,h2,h3⟩:=run h
    refine⟨d,u,h1,h2,λst' hs =>?_⟩
    have di:rd st' x=some (.bool b):=by rw[← hs.rd hx]; exact hb
    simp only[zf,hg,di,ai ou]
    exact h3 st' hs
   ·rename_i ou
    simp only[aa] at h; subst h
    refine⟨.none,.tuple [],rfl,trivial,λst' hs =>?_⟩
    have di:rd st' x=some (.bool b):=by rw[← hs.rd hx]; exact hb
    simp only[zf,hg,di,ae ou]
    rfl
  ·rename_i hb
   simp only[aa] at h; subst h
   refine⟨.none,.tuple [],rfl,trivial,λst' hs =>?_⟩
   have di:rd st' x=some (.tuple []):=by rw[← hs.rd hx]; exact hb
   simp only[zf,hg,di]
   rfl
  ·simp at h
theorem Od {st:St} {j:Nat} {d:PD} {u:PV} {x:PX} (h:isX d j x=false):raw (put st j d u) x=raw st x:=by
 cases d<;>cases x<;>simp[isX,AU] at h<;>simp only[put,raw]<;>first|rfl|(rw[aU]; simp[h])
theorem TA (v:PV):vw (dem v)=vw v:=by cases v<;>rfl
theorem c1H (off:Nat) (v:PV):vw (DY off v)=vw v:=by cases v<;>rfl
theorem c3A {y x:PX} (st:St) (h:AU y x=false):raw (AV y st) x=raw st x:=by
 cases y with
 | v i =>
   cases x with
   | v k=>simp[AU] at h; simp[AV,raw,bm,h]
   | _=>rfl
 | _=>cases x<;>rfl
theorem Oe:∀{xs:List PX} {x:PX} (st:St),(∀y∈xs,AU y x=false)→raw (Aq xs st) x=raw st x
 | [],_,_,_=>rfl
 | y :: xs, x, st, h => by
   simp only[Aq]
   rw[Oe (xs:=xs) _ (λz hz=>h z (bl _ hz)),c3A st (h y (bS ..))]
theorem TB:∀(xs:List PX) (st:St),(Aq xs st).heap=st.heap
 | [],_=>rfl
 | x::xs,st=>by simp only[Aq]; rw[TB xs]; cases x<;>rfl
theorem Of:∀(xs:List PX) (st:St) (h:List PObj),Aq xs { st with heap:=h }={ Aq xs st with heap:=h }
 | [],_,_=>rfl
 | x :: xs, st, h => by
   simp only[Aq]
   rw[← Of xs]
   cases x<;>rfl
theorem c1I (d:Dm) (st:St) (x:PX) (ec:∀xs,d = .shut xs→∀y∈xs,AU y x=false):(raw (d.app st) x).map vw=(raw st x).map vw:=by
 cases d with
 | none=>rfl
 | heap h=>cases x<;>rfl
 | shut xs=>simp only[Dm.app]; rw[Oe st (ec xs rfl)]
 | src y =>
   cases y with
   | c p=>rfl
   | v i =>
     cases x with
     | v k =>
       simp only[Dm.app,raw,bm]
       cases st.vars[k]?<;>simp
       split<;>simp[TA]
     | _=>rfl
   | l i =>
     cases x with
     | l k =>
       simp only[Dm.app,raw,bm]
       cases st.locs[k]?<;>simp
       split<;>simp[TA]
     | _=>rfl
 | cell s off =>
   cases x with
   | v k =>
     simp only[Dm.app,raw,bm]
     cases st.vars[k]?<;>simp
     split<;>simp[c1H]
   | _=>rfl
theorem b9y {o:POp} {d:Dm} (hd:B6 o d) (st:St) (x:PX) (hx:∀y∈A9 o,AU y x=false) (ec:∀xs,d = .shut xs→∀y∈xs,AU y x=false) (es:List PV):raw (d.app st) x=some (.list true es)↔raw st x=some (.list true es):=by
 cases d with
 | none=>exact Iff.rfl
 | heap h=>cases x<;>exact Iff.rfl
 | shut xs=>simp only[Dm.app]; rw[Oe st (ec xs rfl)]
 | src y =>
   have hy:=hx y hd
   cases y with
   | c p=>exact Iff.rfl
   | v i =>
     cases x with
     | v k=>simp[AU] at hy; simp[Dm.app,raw,bm,hy]
     | _=>exact Iff.rfl
   | l i =>
     cases x with
     | l k=>simp[AU] at hy; simp[Dm.app,raw,bm,hy]
     | _=>exact Iff.rfl
 | cell s off =>
   cases x with
   | v k =>
     simp only[Dm.app,raw,bm]
     cases hv:st.vars[k]? with
     | none=>simp
     | some v =>
       simp only[aH,aa]
       split
       ·cases v<;>simp[DY]
       ·simp
   | _=>exact Iff.rfl
theorem c8D (v:PV):dem (dem v)=dem v:=by cases v<;>rfl
theorem Og (cs:List PV) (off:Nat):(cs.modify off dem).map dem=cs.map dem:=by
 apply bK
 intro k
 simp only[aF,bm]
 cases cs[k]?<;>simp
 split<;>simp[c8D]
theorem c8E {o:POp} {d:Dm} (hd:B6 o d) (st:St) (exact:Bool) (he:exact=true→yR o≠3) (h4:yR o≠4):Dr exact st (d.app st)∧Dr exact (d.app st) st:=by
 have same:∀(st st':St),(∀s:Nat,∀g cs,st.vars[s]? = some (.loc g cs)→st'.vars[s]? = some (.loc g cs))→Dr exact st st':=λst st' h s g cs hs=>⟨cs,h s g cs hs,rfl,λ_=>rfl⟩
 cases d with
 | none=>exact ⟨same _ _ (λ_ _ _ h=>h),same _ _ (λ_ _ _ h=>h)⟩
 | heap h=>exact ⟨same _ _ (λ_ _ _ h=>h),same _ _ (λ_ _ _ h=>h)⟩
 | shut xs=>exact absurd hd.1 h4
 | src y =>
   cases y with
   | c p=>exact ⟨same _ _ (λ_ _ _ h=>h),same _ _ (λ_ _ _ h=>h)⟩
   | l i=>exact ⟨same _ _ (λ_ _ _ h=>h),same _ _ (λ_ _ _ h=>h)⟩
   | v i =>
     refine⟨same _ _ ?_,same _ _ ?_⟩
     ·intro s g cs h
      simp only[Dm.app,bm,h,aH]
      split<;>rfl
     ·intro s g cs h
      simp only[Dm.app,bm] at h
      cases hv:st.vars[s]? with
      | none=>simp[hv] at h
      | some v =>
        rw[hv] at h
        simp only[Option.map_eq_map,aH,aa] at h
        split at h
        ·have:v = .loc g cs:=by cases v<;>simp_all [dem]
         rw[this]
        ·rw[h]
 | cell s off =>
   have h3:yR o=3:=hd
   have da:exact=false:=by
    cases exact with
    | false=>rfl
    | true=>exact absurd h3 (he rfl)
   subst da
   refine⟨?_,?_⟩
   ·intro k g cs h
    simp only[Dm.app,bm,h,aH]
    split
    ·exact ⟨cs.modify off dem,rfl,Og cs off,by simp⟩
    ·exact ⟨cs,rfl,rfl,by simp⟩
   ·intro k g cs h
    simp only[Dm.app,bm] at h
    cases hv:st.vars[k]? with
    | none=>simp[hv] at h
    | some v =>
      rw[hv] at h
      simp only[Option.map_eq_map,aH,aa] at h
      split at h
      ·have:∃cs0,v = .loc g cs0∧cs0.modify off dem=cs:=by cases v<;>simp_all [DY]
       obtain⟨cs0,rfl,rfl⟩:=this
       exact ⟨_,rfl,(Og _ off).symm,by simp⟩
      ·exact ⟨cs,by rw[h],rfl,by simp⟩
structure Comm (jp:Nat) (p:PO) (jq:Nat) (q:PO):Prop where
 mp:yR p.op≠2
 mq:yR q.op≠2
 mm:¬(yR p.op=3∧yR q.op=3)
 pq:∀x∈Cm q,isX p.dst jp x=false
 pv:isV p.dst=true→yR q.op=0
 qp:∀x∈Cm p,isX q.dst jq x=false
 qv:isV q.dst=true→yR p.op=0
 dd:FK p.dst q.dst=false
 tt:∀x∈A9 p.op,∀y∈A9 q.op,AU x y=false
 m4:yR p.op=4→yR q.op=0
 n4:yR q.op=4→yR p.op=0
 h2:Ap p.op=2→Ap q.op=0
 k2:Ap q.op=2→Ap p.op=0
 sp:∀x∈Fb p.op,∀y∈Cm q,AU x y=false
 sq:∀x∈Fb q.op,∀y∈Cm p,AU x y=false
theorem c1J (x y:PX):AU x y=AU y x:=by cases x<;>cases y<;>simp[AU]<;>exact Bool.beq_comm
theorem TC (x y:PD):FK x y=FK y x:=by cases x<;>cases y<;>simp[FK]<;>exact Bool.beq_comm
theorem c3B {jp jq:Nat} {p q:PO} (h:Kj jp p jq q=true):Comm jp p jq q:=by
 simp only[Kj,Ge,ao,bD,bne_iff_ne,ne_eq,aJ,bM,br,Bool.and_eq_false_iff,beq_eq_false_iff_ne,bne_eq_false_iff_eq,List.any_eq_false] at h
 obtain⟨⟨⟨⟨⟨⟨⟨⟨⟨⟨⟨⟨h1,h2⟩,h3⟩,a1⟩,a2⟩,a3⟩,a4⟩,a5⟩,a6⟩,h4,h5⟩,h6,h7⟩,h8⟩,h9⟩:=h
 have neg:∀{a b:Nat} {c:Nat},(¬a=c∨b=0)→a=c→b=0:=by
  intro a b c h e
  rcases h with h|h
  ·exact absurd e h
  ·exact h
 refine⟨h1,h2,?_,h4,?_,h6,?_,h8,?_,neg a1,neg a2,neg a3,neg a4,?_,?_⟩
 ·rintro⟨a,b⟩; rcases h3 with h3|h3
  ·exact h3 a
  ·exact h3 b
 ·intro hv; rcases h5 with h5|h5
  ·rw[hv] at h5; simp at h5
  ·exact h5
 ·intro hv; rcases h7 with h7|h7
  ·rw[hv] at h7; simp at h7
  ·exact h7
 ·intro x hx y hy
  simpa using h9 x hx y hy
 ·intro x hx y hy
  simpa using a5 x hx y hy
 ·intro x hx y hy
  simpa using a6 x hx y hy
theorem Comm.symm {jp jq:Nat} {p q:PO} (h:Comm jp p jq q):Comm jq q jp p:=
 ⟨h.mq,h.mp,fun⟨a,b⟩=>h.mm ⟨b,a⟩,h.qp,h.qv,h.pq,h.pv,by rw[TC]; exact h.dd,λx hx y hy=>by rw[c1J]; exact h.tt y hy x hx,h.n4,h.m4,h.k2,h.h2,h.sq,h.sp⟩
theorem TD {jp jq:Nat} {p q:PO} (hc:Comm jp p jq q) {d:Dm} (hd:B6 p.op d) (st:St) (u:PV):Km q st (put (d.app st) jp p.dst u)∧Km q (put (d.app st) jp p.dst u) st:=by
 have ec:∀x∈Cm q,∀xs,d = .shut xs→∀y∈xs,AU y x=false:=by
  intro x hx xs e y hy
  subst e
  exact hc.sp y (hd.2▸hy) x hx
 have lq:∀x∈Cm q,(raw st x).map vw=(raw (put (d.app st) jp p.dst u) x).map vw:=λx hx=>by
  rw[Od (hc.pq x hx),c1I d st x (ec x hx)]
 have lr:∀x∈A9 q.op,∀es,raw st x=some (.list true es)↔raw (put (d.app st) jp p.dst u) x=some (.list true es):=λx hx es=>by
  rw[Od (hc.pq x (Iw q x (Oc _ x hx))),b9y hd st x (λy hy=>hc.tt y hy x hx) (ec x (Iw q x (Oc _ x hx)))]
 have dT:1≤yR q.op→Dr (yR q.op==3) st (put (d.app st) jp p.dst u)∧Dr (yR q.op==3) (put (d.app st) jp p.dst u) st:=λh1=>by
  have hv:(put (d.app st) jp p.dst u).vars=(d.app st).vars:=by
   cases hd:p.dst with
   | v i=>have:=hc.pv (by rw[hd]; rfl); omega
   | l=>rfl
   | n=>rfl
  have:=c8E hd st (yR q.op==3) (λhe h3=>hc.mm ⟨h3,by simpa using he⟩) (λh4=>by have:=hc.m4 h4; omega)
  unfold Dr at this ⊢
  rw[hv]
  exact this
 have d7:1≤Ap q.op→(put (d.app st) jp p.dst u).heap=st.heap:=by
  intro h1
  have hp:(put (d.app st) jp p.dst u).heap=(d.app st).heap:=by cases p.dst<;>rfl
  rw[hp]
  cases d with
  | none=>rfl
  | src y=>cases y<;>rfl
  | cell s off=>rfl
  | heap h=>have:=hc.h2 hd; omega
  | shut xs=>exact TB xs st
 exact ⟨⟨lq,lr,λh=>(dT h).1,d7⟩,⟨λx hx=>(lq x hx).symm,λx hx es=>(lr x hx es).symm,λh=>(dT h).2,λh=>(d7 h).symm⟩⟩
theorem Ix (l:List PV) (i k:Nat) (f g:PV→PV) (h:i=k→∀v,f (g v)=g (f v)):(l.modify i f).modify k g=(l.modify k g).modify i f:=by
 apply bK
 intro m
 simp only[bm,Option.map_eq_map,aO]
 cases l[m]? with
 | none=>rfl
 | some v =>
   simp only[aH,Function.comp]
   by_cases h1:i=m<;>by_cases h2:k=m<;>simp[h1,h2]
   exact (h (by omega) v).symm
theorem TE (off:Nat) (v:PV):dem (DY off v)=DY off (dem v):=by cases v<;>rfl
theorem c3C (v:PV):DZ (dem v)=dem (DZ v):=by cases v<;>rfl
theorem b6h (off:Nat) (v:PV):DZ (DY off v)=DY off (DZ v):=by
 cases v<;>simp[DY,DZ,Og]
theorem c3D (x y:PX) (st:St):AV x ((Dm.src y).app st)=(Dm.src y).app (AV x st):=by
 cases x<;>cases y<;>(try simp only[Dm.app,AV])<;>(try rfl)
 rw[Ix]; intro _ v; exact (c3C v).symm
theorem c1K (x:PX) (s off:Nat) (st:St):AV x ((Dm.cell s off).app st)=(Dm.cell s off).app (AV x st):=by
 cases x<;>(try simp only[Dm.app,AV])<;>(try rfl)
 rw[Ix]; intro _ v; exact (b6h off v).symm
theorem Oh:∀(xs:List PX) (y:PX) (st:St),Aq xs ((Dm.src y).app st)=(Dm.src y).app (Aq xs st)
 | [],_,_=>rfl
 | x::xs,y,st=>by simp only[Aq]; rw[c3D,Oh xs]
theorem Oi:∀(xs:List PX) (s off:Nat) (st:St),Aq xs ((Dm.cell s off).app st)=(Dm.cell s off).app (Aq xs st)
 | [],_,_,_=>rfl
 | x::xs,s,off,st=>by simp only[Aq]; rw[c1K,Oi xs]
theorem c8F {o o':POp} {d d':Dm} (hd:B6 o d) (gm:B6 o' d') (hm:¬(yR o=3∧yR o'=3)) (h4:yR o=4→yR o'=0) (h2:Ap o=2→Ap o'=0) (st:St):d.app (d'.app st)=d'.app (d.app st):=by
 cases d with
 | none=>rfl
 | heap h =>
   cases d' with
   | none=>rfl
   | src y=>cases y<;>rfl
   | cell s off=>rfl
   | heap h' =>
     have a:=h2 hd
     have b:Ap o'=2:=gm
     omega
   | shut xs=>exact (Of xs st h).symm
 | shut xs =>
   cases d' with
   | none=>rfl
   | src y=>exact Oh xs y st
   | cell s off=>exact Oi xs s off st
   | heap h'=>exact Of xs st h'
   | shut ys =>
     have a:=h4 hd.1
     have b:yR o'=4:=gm.1
     omega
 | src y =>
   cases d' with
   | heap h'=>cases y<;>rfl
   | shut xs=>exact (Oh xs y st).symm
   | none=>rfl
   | src y' =>
     cases y<;>cases y'<;>(try simp only[Dm.app])<;>(try rfl)<;>(rw[Ix]; intro _ v; rfl)
   | cell s off =>
     cases y<;>(try simp only[Dm.app])<;>(try rfl)
     rw[Ix]; intro _ v; exact (TE off v).symm
 | cell s off =>
   cases d' with
   | heap h'=>rfl
   | shut xs=>exact (Oi xs s off st).symm
   | none=>rfl
   | src y' =>
     cases y'<;>(try simp only[Dm.app])<;>(try rfl)
     rw[Ix]; intro _ v; exact TE off v
   | cell s' off'=>exact absurd ⟨hd,gm⟩ hm
theorem Oj (l:List PV) (i k:Nat) (f:PV→PV) (u:PV) (h:i≠k):(l.set i u).modify k f=(l.modify k f).set i u:=by
 apply bK
 intro m
 simp only[bm,aU,List.length_modify]
 by_cases h1:i=m
 ·subst h1
  have:¬k=i:=λe=>h e.symm
  simp[this]
 ·simp[h1]
theorem c3E {x:PX} {j:Nat} {d:PD} (st:St) (u:PV) (h:isX d j x=false):AV x (put st j d u)=put (AV x st) j d u:=by
 cases x with
 | v k =>
   cases d with
   | v i=>simp[isX,AU] at h; simp only[AV,put]; rw[Oj _ _ _ _ _ h]
   | _=>rfl
 | _=>cases d<;>rfl
theorem TG:∀{xs:List PX} {j:Nat} {d:PD} (st:St) (u:PV),(∀x∈xs,isX d j x=false)→Aq xs (put st j d u)=put (Aq xs st) j d u
 | [],_,_,_,_,_=>rfl
 | x :: xs, j, d, st, u, h => by
   simp only[Aq]
   rw[c3E st u (h x (bS ..)),TG _ _ (λy hy=>h y (bl _ hy))]
theorem c3F (o:POp):∀x∈Fb o,x∈yQ o:=by
 intro x hx
 cases o with
 | h o=>cases o<;>simp[Fb,yQ,zC] at hx ⊢; exact hx
 | _=>simp[Fb] at hx
theorem TH {p:PO} {q:PO} {jp jq:Nat} (hc:Comm jp p jq q) {d:Dm} (hd:B6 p.op d) (st:St) (u:PV):d.app (put st jq q.dst u)=put (d.app st) jq q.dst u:=by
 cases d with
 | none=>rfl
 | heap h=>cases q.dst<;>rfl
 | shut xs=>exact TG st u (λx hx=>hc.qp x (Iw p x (c3F _ x (hd.2▸hx))))
 | src y =>
   have hy:=hc.qp y (Iw p y (Oc _ y hd))
   cases hq:q.dst with
   | n=>rfl
   | v i =>
     rw[hq] at hy
     cases y with
     | c z=>rfl
     | l k=>rfl
     | v k=>simp[isX,AU] at hy; simp only[Dm.app,put]; rw[Oj _ _ _ _ _ hy]
   | l =>
     rw[hq] at hy
     cases y with
     | c z=>rfl
     | v k=>rfl
     | l k=>simp[isX,AU] at hy; simp only[Dm.app,put]; rw[Oj _ _ _ _ _ hy]
 | cell s off =>
   cases hq:q.dst with
   | n=>rfl
   | l=>rfl
   | v i =>
     have h0:=hc.qv (by rw[hq]; rfl)
     have h3:yR p.op=3:=hd
     omega
theorem c8G {jp jq:Nat} {d d':PD} (hj:jp≠jq) (h:FK d d'=false) (st:St) (u u':PV):put (put st jp d u) jq d' u'=put (put st jq d' u') jp d u:=by
 cases d<;>cases d'<;>simp[FK] at h<;>simp only[put]<;>(try rfl)
 ·rw[List.set_comm _ _ h]
 ·rw[List.set_comm _ _ hj]
theorem swap {cf:yg} {jp jq:Nat} {p q:PO} (hj:jp≠jq) (hc:Comm jp p jq q) {st st1 st2:St} (h1:zf cf jp p st=some st1) (h2:zf cf jq q st1=some st2):
  ∃st1',zf cf jq q st=some st1'∧zf cf jp p st1'=some st2:=by
 obtain⟨d,u,e1,f1,s1⟩:=Tz hc.mp h1
 obtain⟨d',u',e2,f2,s2⟩:=Tz hc.mq h2
 subst e1
 have hq:=s2 st (TD hc f1 st u).2
 refine⟨_,hq,?_⟩
 have hp:=s1 _ (TD hc.symm f2 st u').1
 rw[hp,e2]
 congr 1
 rw[TH hc f1,TH hc.symm f2,c8F f1 f2 hc.mm hc.m4 hc.h2]
 exact c8G (λe=>hj e.symm) (by rw[TC]; exact hc.dd) _ _ _
def Kn (p:PO):Option (Nat×Bool×PX):=
 match p with
 | ⟨.l,.h (.load sz agg x false),none⟩=>some (sz,agg,x)
 | _=>none
def Ko (p:PO):Option PX:=
 match p with
 | ⟨.l,.h (.loadn y),none⟩=>some y
 | _=>none
def Kg (jp:Nat) (p:PO) (jq:Nat) (q:PO):Bool:=
 match Kn p,Ko q with
 | some (_,_,x),some y => !isX .l jp y && !isX .l jq x
 | _, _ => match Ko p, Kn q with
   | some y,some (_,_,x) => !isX .l jp x && !isX .l jq y
   | _,_=>false
def Gv (jp:Nat) (p:PO) (jq:Nat) (q:PO):Bool:=Kj jp p jq q||Kg jp p jq q
theorem Kh {p:PO} {r} (h:Kn p=some r):p=⟨.l,.h (.load r.1 r.2.1 r.2.2 false),none⟩:=by
 unfold Kn at h
 split at h
 ·cases h; rfl
 ·cases h
theorem Ki {p:PO} {y} (h:Ko p=some y):p=⟨.l,.h (.loadn y),none⟩:=by
 unfold Ko at h
 split at h
 ·cases h; rfl
 ·cases h
def ldv (sz:Nat) (agg:Bool) (st:St):Option PV→Option PV
 | some (.cptr cs)=>yh sz agg cs 0
 | some (.ptr n off)=>(yC st n).bind λcs=>yh sz agg cs off
 | _=>none
theorem TJ {cf:yg} (sz:Nat) (agg:Bool) (x:PX) (st:St):opv cf (.h (.load sz agg x false)) st=(ldv sz agg st (addr st x)).map (·,st):=by
 simp only[opv,x9,cd]
 cases addr st x with
 | none=>rfl
 | some v =>
   cases v<;>try rfl
   simp only[ldv]
   cases yC st _<;>rfl
def lnv (st:St):Option PV→Option (PV×List PObj)
 | some (.ptr n off) => (yC st n).bind fun cs => match cs[off]? with
   | some (.list true es)=>some (.list true es,st.heap.set n (.cells (cs.set off (.list false es))))
   | some .nils=>some (.list true [],st.heap)
   | _=>none
 | _=>none
theorem TK {cf:yg} (y:PX) (st:St):opv cf (.h (.loadn y)) st=(lnv st (addr st y)).map λr=>(r.1,{ st with heap:=r.2 }):=by
 simp only[opv,x9]
 cases addr st y with
 | none=>rfl
 | some v =>
   cases v<;>try rfl
   rename_i n off
   simp only[lnv]
   cases yC st n with
   | none=>rfl
   | some cs =>
     simp only[aw]
     cases cs[off]? with
     | none=>rfl
     | some z =>
       cases z<;>try rfl
       rename_i b es
       cases b<;>rfl
theorem TL {sz:Nat} {agg:Bool} {st:St} {a b:Option PV} {r} (h:lnv st b=some r):ldv sz agg { st with heap:=r.2 } a=ldv sz agg st a:=by
 cases b with
 | none=>simp[lnv] at h
 | some v =>
   cases v<;>simp only[lnv] at h<;>try (cases h; done)
   rename_i n off
   cases hg:yC st n with
   | none=>rw[hg] at h; cases h
   | some cs =>
     rw[hg] at h
     simp only[aw] at h
     split at h
     ·rename_i es ga
      cases h
      cases a with
      | none=>rfl
      | some v =>
        cases v<;>try rfl
        rename_i m off'
        simp only[ldv]
        have hcell:st.heap[n]? = some (.cells cs):=by
         unfold yC at hg
         split at hg
         ·cases hg; assumption
         ·cases hg
        have hn:n<st.heap.length:=(ah.1 hcell).1
        by_cases hm:n=m
        ·subst hm
         have e1:yC { st with heap:=st.heap.set n (.cells (cs.set off (.list false es))) } n=some (cs.set off (.list false es)):=by simp[yC,hn]
         rw[e1,hg]
         simp only[aw]
         refine Ty ?_
         rw[List.map_set]
         symm
         have ho:off<cs.length:=(ah.1 ga).1
         have h2:cs[off] = .list true es:=(ah.1 ga).2
         apply bK
         intro i
         rw[aU]
         split
         ·rename_i e; subst e
          simp[ho,h2,dem]
         ·rfl
        ·have e1:yC { st with heap:=st.heap.set n (.cells (cs.set off (.list false es))) } m=yC st m:=by simp[yC,hm]
         rw[e1]
     ·cases h; rfl
     ·cases h
theorem Kq {st:St} {j:Nat} {v:PV} {x:PX} {h:List PObj} (hx:isX .l j x=false):addr { st with locs:=st.locs.set j v,heap:=h } x=addr st x:=by
 have:=Od (st:=st) (j:=j) (d := .l) (u:=v) hx
 rw[Kl,Kl,← this]
 cases x<;>rfl
theorem d5E {cf:yg} {jp jq:Nat} {p q:PO} (hj:jp≠jq) (hc:Kg jp p jq q=true) {st st1 st2:St} (h1:zf cf jp p st=some st1) (h2:zf cf jq q st1=some st2):
  ∃st1',zf cf jq q st=some st1'∧zf cf jp p st1'=some st2:=by
 unfold Kg at hc
 split at hc
 ·rename_i sz agg x y hp hq
  simp only[ao,bD] at hc
  rw[Kh hp] at h1 ⊢
  rw[Ki hq] at h2 ⊢
  simp only[zf,TJ,TK,aO,ab] at h1 h2 ⊢
  obtain⟨v,hv,rfl⟩:=h1
  obtain⟨r,hr,rfl⟩:=h2
  simp only[Function.comp,put] at hr ⊢
  rw[Kq (h:=st.heap) hc.1] at hr
  refine⟨_,⟨r,hr,rfl⟩,v,?_,?_⟩
  ·rw[Kq hc.2]
   exact (TL hr).trans hv
  ·simp only[List.set_comm _ _ hj]
 ·split at hc
  ·rename_i y sz agg x hp hq
   simp only[ao,bD] at hc
   rw[Ki hp] at h1 ⊢
   rw[Kh hq] at h2 ⊢
   simp only[zf,TJ,TK,aO,ab] at h1 h2 ⊢
   obtain⟨r,hr,rfl⟩:=h1
   obtain⟨v,hv,rfl⟩:=h2
   simp only[Function.comp,put] at hv ⊢
   rw[Kq hc.1] at hv
   refine⟨_,⟨v,(TL hr).symm.trans hv,rfl⟩,r,?_,?_⟩
   ·rw[Kq (h:=st.heap) hc.2]
    exact hr
   ·simp only[List.set_comm _ _ hj]
  ·cases hc
theorem d5F {cf:yg} {jp jq:Nat} {p q:PO} (hj:jp≠jq) (hc:Gv jp p jq q=true) {st st1 st2:St} (h1:zf cf jp p st=some st1) (h2:zf cf jq q st1=some st2):
  ∃st1',zf cf jq q st=some st1'∧zf cf jp p st1'=some st2:=by
 rcases Bool.or_eq_true_iff.1 hc with h|h
 ·exact swap hj (c3B h) h1 h2
 ·exact d5E hj h h1 h2
theorem N2 {cf:yg} {pos:List PO} {i:Nat} {q:PO} (hi:pos[i]? = some q) {post:List Nat}:∀{pre:List Nat} {st st':St},(∀j∈pre,j≠i∧∀p,pos[j]? = some p→Gv j p i q=true) →
  Ah cf pos (pre++i::post) st=some st'→Ah cf pos (i::(pre++post)) st=some st'
 | [],st,st',_,h=>h
 | j :: pre, st, st', hc, h => by
   simp only[aK,Ah] at h
   split at h
   ·rename_i p hp
    simp only[aj] at h
    obtain⟨st1,h1,h2⟩:=h
    have ih:=N2 hi (λj' lK=>hc j' (by simp[lK])) h2
    simp only[Ah,hi,aj] at ih
    obtain⟨st2,h3,h4⟩:=ih
    obtain⟨hj,gH⟩:=hc j (by simp)
    obtain⟨st1',h5,h6⟩:=d5F hj (gH p hp) h1 h3
    simp only[aK,Ah,hi,hp,h5,aw,h6]
    exact h4
   ·simp at h
inductive Pre (ops:Array Oper):Nat→Nat→Prop where
 | edge {i:Nat} {o:Oper} {e:Edge} (ho:ops[i]? = some o) (he:e∈o.after) (hb:Region.binds .any e=true):Pre ops e.on i
 | far {i j:Nat} {o:Oper} {e:Edge} (ho:ops[i]? = some o) (he:e∈o.after) (hb:Region.binds .any e=true) (h:Pre ops j e.on):Pre ops j i
def Kr {α:Type} (m:Nat) (f:Nat→α):α:=
 match m with
 | 0=>f 0
 | n+1=>f (n+1)
theorem Kk {α:Type} (m:Nat) (f:Nat→α):Kr m f=f m:=by cases m<;>rfl
def wide:Nat:=1024
def Iy (M:Nat):List Edge→Nat→Nat
 | [],m=>m
 | e::es,m=>if Region.binds .any e then Kr (m ||| 1 <<< e.on ||| M >>> (e.on*1024) % 2 ^ wide) (Iy M es) else Iy M es m
def rows:List Oper→Nat→Nat→Nat
 | [],_,M=>M
 | o::os,i,M=>Kr (M ||| (Iy M o.after.toList 0 % 2 ^ wide) <<< (i*1024)) (rows os (i+1))
def Iu (ops:Array Oper) (M:Nat):Prop:=∀i j,j<1024→M.testBit (i*1024+j)=true→Pre ops j i
theorem Ok {ops:Array Oper} {M:Nat} (hM:Iu ops M) {i:Nat} {o:Oper} (ho:ops[i]? = some o):∀(es:List Edge) (m:Nat),(∀e∈es,e∈o.after)→(∀j,j<1024→m.testBit j=true→Pre ops j i)→∀j,j<1024→(Iy M es m).testBit j=true→Pre ops j i
 | [],m,_,hm=>hm
 | e :: es, m, ga, hm => by
   intro j hj h
   simp only[Iy] at h
   split at h
   ·rename_i hb
    rw[Kk] at h
    refine Ok hM ho es _ (λx hx=>ga x (by simp[hx])) ?_ j hj h
    intro k hk em
    simp only[Nat.testBit_or,bM] at em
    rcases em with(em|em)|em
    ·exact hm k hk em
    ·rw[Nat.one_shiftLeft,Nat.testBit_two_pow] at em
     have:e.on=k:=by simpa using em
     exact this▸Pre.edge ho (ga e (by simp)) hb
    ·rw[Nat.testBit_mod_two_pow,Nat.testBit_shiftRight] at em
     simp only[ao] at em
     exact Pre.far ho (ga e (by simp)) hb (hM e.on k hk em.2)
   ·exact Ok hM ho es m (λx hx=>ga x (by simp[hx])) hm j hj h
theorem N3 {ops:Array Oper}:∀(os:List Oper) (i M:Nat),(∀k,os[k]? = ops[i+k]?)→Iu ops M→Iu ops (rows os i M)
 | [],_,_,_,hM=>hM
 | o :: os, i, M, hs, hM => by
   simp only[rows,Kk]
   have ho:ops[i]? = some o:=by simpa using(hs 0).symm
   refine N3 os (i+1) _ (λk=>by have:=hs (k+1); simp only[cz] at this; rw[this]; congr 1; omega) ?_
   intro a j hj h
   simp only[Nat.testBit_or,bM] at h
   rcases h with h|h
   ·exact hM a j hj h
   ·rw[Nat.testBit_shiftLeft,Nat.testBit_mod_two_pow] at h
    simp only[ao,av] at h
    obtain⟨h1,h2,h3⟩:=h
    have hw:wide=1024:=rfl
    have ha:a=i:=by omega
    subst ha
    rw[Nat.add_sub_cancel_left] at h3
    exact Ok hM ho o.after.toList 0 (by simp) (by simp) j hj h3
def Iv (M:Nat) (pos:List PO) (i j:Nat):Bool:=
 (match pos[j]?,pos[i]? with
 | some p,some q=>Gv j p i q
 | _,_=>false)||(decide (j<1024)&&M.testBit (i*1024+j))
def N4 (ops:Array Oper) (pos:List PO) (M:Nat):Bool:=
 (List.range ops.size).all λi=>(match ops[i]? with | some o=>o.after.all (λe => !Region.binds .any e||decide (e.on<i)) | none=>true)&&(List.range i).all (Iv M pos i)
def E3 (ops:Array Oper) (pos:List PO):Bool:=Kr (rows ops.toList 0 0) (N4 ops pos)
def J7 (ops:Array Oper) (listed:Array Bool):Prop:=
 ∀(k:Nat) (o:Oper),ops[k]? = some o→listed.getD k false=true→∀e∈o.after,Region.binds .any e=true→listed.getD e.on false=true
theorem Tx {ops:Array Oper} {listed:Array Bool} (dA:J7 ops listed) {j i:Nat} (h:Pre ops j i):∀{o:Oper},ops[i]? = some o→(∀e∈o.after,Region.binds .any e=true→listed.getD e.on false=true)→listed.getD j false=true:=by
 induction h with
 | edge ho he hb=>intro o eA hl; rw[ho] at eA; cases eA; exact hl _ he hb
 | @far i j o1 e ho he hb hp ih =>
   intro o eA hl; rw[ho] at eA; cases eA
   have lJ:=hl _ he hb
   cases h':ops[e.on]? with
   | none => exfalso; cases hp with
     | edge h1=>rw[h'] at h1; cases h1
     | far h1=>rw[h'] at h1; cases h1
   | some o'=>exact ih h' (dA e.on o' h' lJ)
def zH (n:Nat) (listed:Array Bool):List Nat:=(List.range n).filter λi => !listed.getD i false
theorem Tw {l:List Nat} {f:Nat→Bool} {i:Nat} (hs:l.Pairwise (·<·)) (hi:i∈l) (hf:f i=true):
  ∃pre post,l.filter f=pre++i::post∧(∀j∈pre,j<i∧j∈l∧f j=true)∧l.filter (λk=>f k&&k != i)=pre++post:=by
 induction l with
 | nil=>simp at hi
 | cons x xs ih =>
   rw[bO] at hs
   rcases aA.1 hi with rfl|hi
   ·refine⟨[],xs.filter f,by simp[hf],by simp,?_⟩
    simp only[cF,hf,bne_self_eq_false,Bool.and_false,aL,if_false,bg]
    apply List.filter_congr
    intro k hk
    have:k≠i:=λe=>by have:=hs.1 k hk; omega
    simp[this]
   ·obtain⟨pre,post,h1,h2,h3⟩:=ih hs.2 hi
    have cV:=hs.1 i hi
    have da:(x != i)=true:=by simp; omega
    by_cases hx:f x=true
    ·refine⟨x::pre,post,by simp[hx,h1],?_,by simp[cF,hx,da,h3]⟩
     intro j hj
     rcases aA.1 hj with rfl|hj
     ·exact ⟨cV,by simp,hx⟩
     ·obtain⟨a,b,c⟩:=h2 j hj
      exact ⟨a,by simp[b],c⟩
    ·refine⟨pre,post,by simp[hx,h1],?_,by simp[cF,hx,h3]⟩
     intro j hj
     obtain⟨a,b,c⟩:=h2 j hj
     exact ⟨a,by simp[b],c⟩
section
variable {E:Env} {N:Nm} {vs:List Tmp} {P:Program} {ops:Array Oper} {Q:Exit→Act→World→Prop}
theorem c3K {L:Nat→Option PFunc} (hF:Ag N P L) (hE:EnvOk E N) (hP:E.P=P) (nm:Names vs (x7 vs ops.toList)) {cf:yg} (dK:CallOK N P cf)
  (eL:∀k args h r,cf k args h=some r→∃f,L k=some f) {pos:List PO} (hc:Er E vs ops.toList ops.toList=some pos) (fM:E3 ops pos=true):
  ∀ (fuel : Nat) {listed : Array Bool} {st st' : St} {w : World} {G : GS} {a : Act}, listed.size = ops.size → (zH ops.size listed).length ≤ fuel → J7 ops listed → Ah cf pos (zH ops.size listed) st = some st' →
    FI N w G st a vs (x7 vs ops.toList)→Next1 N w G a st' vs ops.toList (Q .normal)→wpAny P .any ops Q fuel listed a w:=by
 have cS:ops.size=pos.length:=by have:=(E5 hc).1; simpa using this
 have tQ:Iu ops (rows ops.toList 0 0):=N3 _ _ _ (by simp) (λi j _ h=>by simp at h)
 have fM:N4 ops pos (rows ops.toList 0 0)=true:=by rw[E3,Kk] at fM; exact fM
 have lg:∀i o,ops[i]? = some o→∀e∈o.after,Region.binds .any e=true→e.on<i:=by
  intro i o ho e he hb
  have hi:i<ops.size:=(aZ.1 ho).1
  have:=aJ.1 fM i (by simpa using hi)
  simp only[ho,ao,Array.all_eq_true_iff_forall_mem] at this
  have:=this.1 e he
  simpa[hb] using this
 have lh:∀i j,i<ops.size→j<i→Iv (rows ops.toList 0 0) pos i j=true:=by
  intro i j hi hj
  have:=aJ.1 fM i (by simpa using hi)
  simp only[ao] at this
  exact aJ.1 this.2 j (by simpa using hj)
 have jx:∀{listed:Array Bool},listed.size=ops.size→Region.ready .any ops listed=[]→zH ops.size listed=[]:=by
  intro listed dc hr
  rcases List.eq_nil_or_concat (zH ops.size listed) with h|⟨_,_,h⟩
  ·exact h
  ·exfalso
   cases fO:zH ops.size listed with
   | nil=>rw[fO] at h; simp at h
   | cons m rest =>
     have hm:m∈zH ops.size listed:=by rw[fO]; simp
     simp only[zH,cE,List.mem_range,bD] at hm
     have iK:(zH ops.size listed).Pairwise (·<·):=List.Pairwise.filter _ List.pairwise_lt_range
     rw[fO,bO] at iK
     have mw:m∈Region.ready .any ops listed:=by
      rw[mem_ready]
      refine⟨?_,ops[m],by simp[hm.1],?_⟩
      ·have:=hm.2
       simp only[aV] at this ⊢
       have cV:m<listed.size:=by omega
       simpa[cV] using this
      ·intro e he hb
       have cV:=lg m ops[m] (by simp[hm.1]) e he hb
       cases hl:listed.getD e.on false with
       | true=>rfl
       | false =>
         have dI:e.on∈zH ops.size listed:=by
          simp only[zH,cE,List.mem_range,hl,Bool.not_false,and_true]
          omega
         rw[fO] at dI
         rcases aA.1 dI with h|h
         ·omega
         ·have:=iK.1 _ h; omega
     rw[hr] at mw
     simp at mw
 intro fuel
 induction fuel with
 | zero =>
   intro listed st st' w G a dc hl dA hx hf hk
   have h0:zH ops.size listed=[]:=bC.1 (by omega)
   rw[h0] at hx
   simp[Ah] at hx; subst hx
   refine⟨?_,hk _ _ G hf (Ext.refl _ _) rfl⟩
   refine List.eq_nil_iff_forall_not_mem.2 λi hi =>?_
   rw[mem_ready] at hi
   obtain⟨gu,o,ho,_⟩:=hi
   have cV:i<ops.size:=(aZ.1 ho).1
   have:i∈zH ops.size listed:=by
    simp only[zH,cE,List.mem_range,cV,true_and]
    have my:i<listed.size:=by omega
    simp only[aV] at gu ⊢
    simpa[my] using gu
   rw[h0] at this
   simp at this
 | succ fuel ih =>
   intro listed st st' w G a dc hl dA hx hf hk
   refine⟨?_,?_⟩
   ·intro hr
    rw[jx dc hr] at hx
    simp[Ah] at hx; subst hx
    exact hk _ _ G hf (Ext.refl _ _) rfl
   ·intro i hi
    rw[mem_ready] at hi
    obtain⟨gu,o,ho,gq⟩:=hi
    have cV:i<ops.size:=(aZ.1 ho).1
    have ir:listed.getD i false=false:=by
     have my:i<listed.size:=by omega
     simp only[aV] at gu ⊢
     simpa[my] using gu
    obtain⟨q,hq,xx⟩:=(E5 hc).2 i o (by simpa using ho)
    obtain⟨pre,post,e1,e2,e3⟩:=Tw (f:=λk => !listed.getD k false) (List.pairwise_lt_range (n:=ops.size)) (by simpa using cV) (by simp only[ir]; rfl)
    have fp:Ah cf pos (i::(pre++post)) st=some st':=by
     refine N2 hq ?_ (by rw[← e1]; exact hx)
     intro j hj
     obtain⟨a1,a2,a3⟩:=e2 j hj
     refine⟨by omega,λp hp =>?_⟩
     have mW:=lh i j cV a1
     simp only[Iv,hp,hq,bM] at mW
     rcases mW with h|h
     ·exact h
     ·simp only[ao,av] at h
      have:=Tx dA (tQ i j h.1 h.2) ho gq
      simp only[this] at a3
      simp at a3
    simp only[Ah,hq,aj] at fp
    obtain⟨st1,eY,kl⟩:=fp
    refine Kc hF hE hP nm ho hf dK eL xx eY ?_
    intro a' w' G' iy he eG
    have fO:zH ops.size (listed.setIfInBounds i true)=pre++post:=by
     rw[← e3]
     unfold zH
     apply List.filter_congr
     intro k dq
     by_cases j9:k=i
     ·subst j9
      have my:k<listed.size:=by omega
      simp[aV,bx,my]
     ·rw[getD_set_ne _ (Ne.symm j9)]
      simp[j9]
    refine ih (by simp[dc]) ?_ ?_ (by rw[fO]; exact kl) iy (hk.trans he eG)
    ·rw[fO]
     have:(zH ops.size listed).length=(pre++i::post).length:=by unfold zH; rw[e1]
     simp at this ⊢
     omega
    ·intro k o' eA eV e fL hb
     by_cases j9:k=i
     ·subst j9
      have:o'=o:=by rw[ho] at eA; simpa using eA.symm
      subst this
      exact getD_set_true (gq e fL hb)
     ·rw[getD_set_ne _ (Ne.symm j9)] at eV
      exact getD_set_true (dA k o' eA eV e fL hb)
end
end PI
set_option linter.unusedSimpArgs false
set_option linter.unusedVariables false
namespace PI
open Go
def W (r:Option Nat):Fence:={ Fence.wide with round:=r }
section
variable {P:Program} {r:Option Nat} {n:Nat} {ops:Array Oper} {Q:Exit→Act→World→Prop}
theorem Cj (f:FuncId):(W r).fn f:=trivial
theorem Is (k:Nat):(W r).room k:=λd h=>by simp[W,Fence.wide] at h
theorem Gt:(W r).depth.isSome=true→1≤n:=λh=>by simp[W,Fence.wide] at h
theorem Kf {f:FuncId} {args:Array Value} {w:World} {R:Ending→World→Prop} (h:Calls P f args w R):CallsIn (W r) n P f args w R:=(callsIn_wide (n:=n)).2 h
theorem c1F {f:FuncId} {args:Array Value} {w:World} {R:Ending→World→Prop} (h:CallsIn (W r) n P f args w R):Calls P f args w R:=(callsIn_wide (n:=n)).1 h
theorem d5D {row:String} {args:Array Value} {w:World} {R:Value→World→Prop} (h:Rows P row args w R):RowsIn (W r) n P row args w R:=
 λc cs _=>let ⟨v,w',hr,hs⟩:=h c cs; ⟨v,w',hr,stepsIn_wide.2 hs⟩
theorem c8x {o:Oper} {a:Act} {w:World} {K:Act→World→Prop} (hd:∀c,o.op≠.defer c) (h:o.wp P a w K Q):o.wpIn (W r) n P a w K Q:=by
 refine⟨λ_ _=>Cj _,?_⟩
 rw[Oper.semAt_eq _ _ _ hd]
 unfold Oper.wp at h
 generalize (execOp a.eval o).run P w=res at h
 cases res with
 | ok x w' =>
   cases x<;>simp only[Oper.upon] at h<;>simp only[Oper.uponIn]<;>first|exact h|exact⟨Gt,Kf h⟩|exact⟨Gt,d5D h⟩|exact h.elim
 | halt x w'=>cases x<;>simp only[Oper.upon] at h<;>simp only[Oper.uponIn]<;>first | exact h | exact h.elim
theorem ND {i:Nat} {a:Act} {w:World} {K:Act→World→Prop} (hd:∀o c,ops[i]? = some o→o.op≠.defer c) (hQ:¬LetsOut Q) (h:wpOp P ops Q i K a w):wpOpIn (W r) n P ops Q i K a w:=by
 unfold wpOp at h
 unfold wpOpIn
 split
 ·rename_i ho; simp only[ho] at h; exact h
 ·rename_i o ho
  simp only[ho] at h
  split
  ·rename_i hw
   simp only[hw,if_true] at h
   rcases h with h|h
   ·exact c8x (λc=>hd o c ho) h
   ·exact absurd h.2 hQ
  ·rename_i hw
   simp only[hw] at h
   exact⟨λ_ _=>Cj _,h⟩
theorem Nz (hd:∀(i:Nat) o c,ops[i]? = some o→o.op≠.defer c) (hQ:¬LetsOut Q):∀{l:List Nat} {a:Act} {w:World},wpOps P ops Q l a w→wpOpsIn (W r) n P ops Q l a w
 | [],_,_,h=>h
 | i :: l, a, w, h => by
   rw[wpOps_cons] at h
   rw[wpOpsIn_cons]
   exact wpOpIn_mono (λa w h=>Nz hd hQ h) (ND (λo c=>hd i o c) hQ h)
def NX (P:Program) (l:Nat) (R:Ending→World→Prop):Exit→Act→World→Prop
 | .normal,_,w=>∃v w',(Instr.endRound l none).run P w = .ok v w'∧R (.returned v) w'
 | .ret,_,w=>∃v w',(Instr.endRound l (some .ret)).run P w = .ok v w'∧R (.returned v) w'
 | .exit id,_,w=>∃v w',(Instr.endRound l (some (.exit id))).run P w = .ok v w'∧R (.returned v) w'
 | .panic chain,a,w=>a.defers=[]∧R (.panicked chain) w
 | _,_,_=>False
theorem Bx (m:Machine):m.fenced P (W r):=fenced_wide P m
theorem b2F {fr c:Frame} {cs:List Frame} {w:World} {chain:List PanicEntry} {fn:Func} (hm:fr.mode = .panicking chain) (hd:fr.defers=[]) (hf:P.funcs[fr.fn]? = some fn):
  step P (lone fr (c::cs) w) = .next (lone (c.raise chain) cs w):=
 step_lone_go (by simp[stepG,unwind,Frame.catches,hm,hd,hf])
end
noncomputable def Bv (cf:yg) (ob:zT) (pos:List PO):List Nat→St→Option (Option PV×St)
 | [],st=>some (none,st)
 | i :: l, st =>
   match pos[i]? with
   | some p => match AA cf ob i p st with
     | some (none,st)=>Bv cf ob pos l st
     | r=>r
   | none=>none
section
variable {cf:yg} {ob:zT} {pos:List PO}
theorem Tt {j:Nat} {p:PO} {st:St} (h:isB p=false):AA cf ob j p st=(zf cf j p st).map λst=>(none,st):=by
 unfold AA
 unfold isB at h
 split
 ·rename_i h1 h2; rw[h1] at h; simp at h
 ·rename_i h1 h2; rw[h1] at h; simp at h
 ·rename_i h1 h2; rw[h1] at h; simp at h
 ·rename_i h1 h2; rw[h1] at h; simp at h
 ·rfl
theorem NZ:∀{l:List Nat} {st:St},(∀i∈l,∀p,pos[i]? = some p→isB p=false)→Bv cf ob pos l st=(Ah cf pos l st).map λst=>(none,st)
 | [],st,_=>rfl
 | i :: l, st, h => by
   simp only[Bv,Ah]
   cases hp:pos[i]? with
   | none=>rfl
   | some p =>
     simp only[Tt (h i (by simp) p hp)]
     cases zf cf i p st with
     | none=>rfl
     | some st1=>simpa using NZ (λj hj=>h j (by simp[hj]))
theorem N1:∀(l1 l2:List Nat) (st:St),Bv cf ob pos (l1++l2) st=match Bv cf ob pos l1 st with
  | some (none,st)=>Bv cf ob pos l2 st
  | r=>r
 | [],l2,st=>rfl
 | i :: l1, l2, st => by
   simp only[aK,Bv]
   cases hp:pos[i]? with
   | none=>rfl
   | some p =>
     simp only
     cases AA cf ob i p st with
     | none=>rfl
     | some x =>
       obtain⟨y,st1⟩:=x
       cases y with
       | none=>exact N1 l1 l2 st1
       | some v=>rfl
theorem S0 {all:List PO}:∀{os:List PO} {j:Nat} {st:St},all.drop j=os→zL cf ob j os st=Bv cf ob all (List.range' j os.length) st
 | [],j,st,_=>rfl
 | o :: os, j, st, h => by
   have hj:all[j]? = some o:=by
    have:=aI List.head? h
    simpa[List.head?_drop] using this
   have ht:all.drop (j+1)=os:=by
    have:=aI List.tail h
    simpa[List.tail_drop] using this
   simp only[zL,aB,List.range'_succ,Bv,hj]
   cases AA cf ob j o st with
   | none=>rfl
   | some x =>
     obtain⟨y,st1⟩:=x
     cases y with
     | none=>exact S0 ht
     | some v=>rfl
theorem b9v {i:Nat} {q:PO} (hi:pos[i]? = some q) {pre post:List Nat} {st:St} {r:Option PV×St} (hb:pre≠[]→isB q=false) (gq:∀j∈pre,∀p,pos[j]? = some p→isB p=false)
  (hc:∀j∈pre,j≠i∧∀p,pos[j]? = some p→Gv j p i q=true) (h:Bv cf ob pos (pre++i::post) st=some r):Bv cf ob pos (i::(pre++post)) st=some r:=by
 cases pre with
 | nil=>exact h
 | cons j0 pre0 =>
   have hq:isB q=false:=hb (by simp)
   generalize gn:j0::pre0=pre at *
   have e1:pre++i::post=(pre++[i])++post:=by simp
   have e2:i::(pre++post)=(i::pre)++post:=rfl
   have p1:∀k∈pre++[i],∀p,pos[k]? = some p→isB p=false:=by
    intro k hk p hp
    rcases ay.1 hk with hk|hk
    ·exact gq k hk p hp
    ·simp at hk; subst hk; rw[hi] at hp; simp at hp; subst hp; exact hq
   have p2:∀k∈i::pre,∀p,pos[k]? = some p→isB p=false:=by
    intro k hk p hp
    rcases aA.1 hk with rfl|hk
    ·rw[hi] at hp; simp at hp; subst hp; exact hq
    ·exact gq k hk p hp
   rw[e1,N1,NZ p1] at h
   rw[e2,N1,NZ p2]
   cases hx:Ah cf pos (pre++[i]) st with
   | none=>rw[hx] at h; simp at h
   | some st1 =>
     have:=N2 hi hc (post:=[]) hx
     rw[be] at this
     rw[this]
     rw[hx] at h
     exact h
theorem Tu {p:PO} (h:isB p=true):yR p.op=2:=by
 unfold isB at h
 split at h<;>first|(rename_i e; rw[e]; rfl)|simp at h
theorem Tv {i j:Nat} {p q:PO} (h:Gv j p i q=true):isB p=false∧isB q=false:=by
 rcases Bool.or_eq_true_iff.1 h with h|h
 rotate_left
 ·unfold Kg at h
  split at h
  ·rename_i hp hq
   rw[Kh hp,Ki hq]; exact⟨rfl,rfl⟩
  ·split at h
   ·rename_i hp hq
    rw[Ki hp,Kh hq]; exact⟨rfl,rfl⟩
   ·cases h
 simp only[Kj,ao,bne_iff_ne,ne_eq] at h
 obtain⟨h1,h2⟩:=h.1.1.1.1.1.1.1.1.1.1.1
 exact⟨by cases hp:isB p with | false=>rfl | true=>exact absurd (Tu hp) h1,by cases hp:isB q with | false=>rfl | true=>exact absurd (Tu hp) h2⟩
end
theorem c8z {ops:Array Oper} {pos:List PO} {cf:yg} {ob:zT} (cS:ops.size=pos.length) (fM:E3 ops pos=true):
  ∀ (fuel t : Nat) {listed : Array Bool} {st : St} {r : Option PV × St}, listed.size = ops.size → (zH ops.size listed).length ≤ fuel → J7 ops listed → Bv cf ob pos (zH ops.size listed) st = some r →
    Bv cf ob pos (Region.linearise.go .any ops fuel t listed []) st=some r:=by
 have tQ:Iu ops (rows ops.toList 0 0):=N3 _ _ _ (by simp) (λi j _ h=>by simp at h)
 have fM:N4 ops pos (rows ops.toList 0 0)=true:=by rw[E3,Kk] at fM; exact fM
 have lg:∀i o,ops[i]? = some o→∀e∈o.after,Region.binds .any e=true→e.on<i:=by
  intro i o ho e he hb
  have hi:i<ops.size:=(aZ.1 ho).1
  have:=aJ.1 fM i (by simpa using hi)
  simp only[ho,ao,Array.all_eq_true_iff_forall_mem] at this
  have:=this.1 e he
  simpa[hb] using this
 have lh:∀i j,i<ops.size→j<i→Iv (rows ops.toList 0 0) pos i j=true:=by
  intro i j hi hj
  have:=aJ.1 fM i (by simpa using hi)
  simp only[ao] at this
  exact aJ.1 this.2 j (by simpa using hj)
 have jx:∀{listed:Array Bool},listed.size=ops.size→Region.ready .any ops listed=[]→zH ops.size listed=[]:=by
  intro listed dc hr
  rcases List.eq_nil_or_concat (zH ops.size listed) with h|⟨_,_,h⟩
  ·exact h
  ·exfalso
   cases fO:zH ops.size listed with
   | nil=>rw[fO] at h; simp at h
   | cons m rest =>
     have hm:m∈zH ops.size listed:=by rw[fO]; simp
     simp only[zH,cE,List.mem_range,bD] at hm
     have iK:(zH ops.size listed).Pairwise (·<·):=List.Pairwise.filter _ List.pairwise_lt_range
     rw[fO,bO] at iK
     have mw:m∈Region.ready .any ops listed:=by
      rw[mem_ready]
      refine⟨?_,ops[m],by simp[hm.1],?_⟩
      ·have:=hm.2
       simp only[aV] at this ⊢
       have cV:m<listed.size:=by omega
       simpa[cV] using this
      ·intro e he hb
       have cV:=lg m ops[m] (by simp[hm.1]) e he hb
       cases hl:listed.getD e.on false with
       | true=>rfl
       | false =>
         have dI:e.on∈zH ops.size listed:=by
          simp only[zH,cE,List.mem_range,hl,Bool.not_false,and_true]
          omega
         rw[fO] at dI
         rcases aA.1 dI with h|h
         ·omega
         ·have:=iK.1 _ h; omega
     rw[hr] at mw
     simp at mw
 intro fuel
 induction fuel with
 | zero =>
   intro t listed st r dc hl dA hx
   have h0:zH ops.size listed=[]:=bC.1 (by omega)
   rw[h0] at hx
   simpa[Region.linearise.go] using hx
 | succ fuel ih =>
   intro t listed st r dc hl dA hx
   simp only[Region.linearise.go]
   change Bv cf ob pos (match (Region.ready .any ops listed)[t % (Region.ready .any ops listed).length]? with
    | some i=>Region.linearise.go .any ops fuel (t / (Region.ready .any ops listed).length) (listed.setIfInBounds i true) [i]
    | none=>[].reverse) st=some r
   cases hi:(Region.ready .any ops listed)[t % (Region.ready .any ops listed).length]? with
   | none =>
     have jy:Region.ready .any ops listed=[]:=by
      cases hr:Region.ready .any ops listed with
      | nil=>rfl
      | cons x xs =>
        rw[hr] at hi
        have cV:t % (x::xs).length<(x::xs).length:=bP _ (by simp)
        simp at hi
        simp at cV
        omega
     rw[jx dc jy] at hx
     simpa using hx
   | some i =>
     simp only[]
     rw[linearise_go_acc,List.reverse_singleton,List.singleton_append]
     have hi:=ax hi
     rw[mem_ready] at hi
     obtain⟨gu,o,ho,gq⟩:=hi
     have cV:i<ops.size:=(aZ.1 ho).1
     have ir:listed.getD i false=false:=by
      have my:i<listed.size:=by omega
      simp only[aV] at gu ⊢
      simpa[my] using gu
     obtain⟨q,hq⟩:∃q,pos[i]? = some q:=⟨pos[i],am (by omega)⟩
     obtain⟨pre,post,e1,e2,e3⟩:=Tw (f:=λk => !listed.getD k false) (List.pairwise_lt_range (n:=ops.size)) (by simpa using cV) (by simp only[ir]; rfl)
     have gH:∀j∈pre,j<i∧∀p,pos[j]? = some p→Gv j p i q=true:=by
      intro j hj
      obtain⟨a1,a2,a3⟩:=e2 j hj
      refine⟨by omega,λp hp =>?_⟩
      have mW:=lh i j cV a1
      simp only[Iv,hp,hq,bM] at mW
      rcases mW with h|h
      ·exact h
      ·simp only[ao,av] at h
       have:=Tx dA (tQ i j h.1 h.2) ho gq
       simp only[this] at a3
       simp at a3
     have fp:Bv cf ob pos (i::(pre++post)) st=some r:=by
      refine b9v hq ?_ (λj hj p hp=>(Tv ((gH j hj).2 p hp)).1) (λj hj=>⟨by have:=(gH j hj).1; omega,λp hp=>(gH j hj).2 p hp⟩) (by rw[← e1]; exact hx)
      intro da
      cases pre with
      | nil=>exact absurd rfl da
      | cons j0 _ =>
        have o5:j0<pos.length:=by have:=(gH j0 (by simp)).1; omega
        exact(Tv ((gH j0 (by simp)).2 pos[j0] (am o5))).2
     simp only[Bv,hq] at fp ⊢
     cases hs:AA cf ob i q st with
     | none=>rw[hs] at fp; exact fp
     | some y =>
       obtain⟨z,st1⟩:=y
       rw[hs] at fp
       cases z with
       | some v=>exact fp
       | none =>
         simp only at fp ⊢
         have fO:zH ops.size (listed.setIfInBounds i true)=pre++post:=by
          rw[← e3]
          unfold zH
          apply List.filter_congr
          intro k dq
          by_cases j9:k=i
          ·subst j9
           have my:k<listed.size:=by omega
           simp[aV,bx,my]
          ·rw[getD_set_ne _ (Ne.symm j9)]
           simp[j9]
         refine ih _ (by simp[dc]) ?_ ?_ (by rw[fO]; exact fp)
         ·rw[fO]
          have:(zH ops.size listed).length=(pre++i::post).length:=by unfold zH; rw[e1]
          simp at this ⊢
          omega
         ·intro k o' eA eV e fL hb
          by_cases j9:k=i
          ·subst j9
           have:o'=o:=by rw[ho] at eA; simpa using eA.symm
           subst this
           exact getD_set_true (gq e fL hb)
          ·rw[getD_set_ne _ (Ne.symm j9)] at eV
           exact getD_set_true (dA k o' eA eV e fL hb)
end PI
set_option linter.unusedSimpArgs false
set_option linter.unusedVariables false
namespace PI
open Go Go.RowKit
def GS.callee (G:GS):GS:={ fix:=G.fix,heap:=G.heap,box:=λ_=>none,ow:=Bk G.ow }
section
variable {E:Env} {N:Nm} {w:World} {G:GS} {st:St} {a:Act} {vs:List Tmp} {lm:Nat→Option Tmp} {P:Program}
theorem Gi (hf:FI N w G st a vs lm):Between N w G.callee st.heap:=
 ⟨⟨λb k h=>(Gs h).2,λ_=>rfl⟩,hf.fixlt,λb k h=>hf.owlt b k (Gs h).1,hf.heap.sub rfl rfl (λb k hk h=>NU h hk),hf.hdom⟩
theorem Ke (hf:FI N w G st a vs lm) {w':World} {G2:GS} {h':List PObj} (he:Ext w G.callee w' G2) (dE:Between N w' G2 h'):
  ∃G',Ext w G w' G'∧FI N w' G' { st with heap:=h' } a vs lm∧G'.fix=G2.fix∧G'.heap=G2.heap:=by
 let Gc:GS:=G.callee
 let G':GS:={ fix:=G2.fix,heap:=G2.heap,box:=G.box,ow:=λb=>match G.ow b with | some k=>if k.isH then G2.ow b else some k | none=>G2.ow b,df:=G.df }
 have cR:Ext w G w' G':=by
  refine⟨he.os,he.tape,he.output,he.size,λb cV h=>he.same b cV (by simp[GS.callee,Bk,h]),λb o h=>he.fix b o h,?_,?_,he.heap,he.shape,rfl⟩
  ·intro b o h
   rcases he.newfix b o h with h|h|h
   ·exact .inl h
   ·exact .inr (.inl h)
   ·refine .inr (.inr ?_)
    intro e
    apply h
    simp[GS.callee,Bk,e]
  ·intro b h
   cases hb:G.ow b with
   | some k=>exact .inr (by simp)
   | none =>
     simp only[G',hb] at h
     rcases he.own b h with h|h
     ·exact .inl h
     ·exact absurd (by simp[GS.callee,Bk,hb]) h
 have cU:zo (λk=>k.isH=true) w G w' G':=by
  refine⟨?_,λ_ _ h=>h⟩
  intro b key di hn
  have eC:=hf.owlt _ _ di
  have eX:Gc.ow b=none:=by simp[Gc,GS.callee,Bk,di,hn]
  refine⟨by simp[G',di,hn],he.same b eC eX,?_⟩
  intro o h
  rcases he.newfix b o h with h|h|h
  ·exact h
  ·omega
  ·exact absurd eX h
 have d7:HR N w' G' h':=by
  refine dE.heap.sub rfl rfl ?_
  intro b k xT h
  cases hb:G.ow b with
  | none=>simp only[G',hb]; exact h
  | some k0 =>
    by_cases lI:k0.isH=true
    ·simp only[G',hb,lI,if_true]; exact h
    ·have eX:Gc.ow b=none:=by simp[Gc,GS.callee,Bk,hb,lI]
     have cV:=hf.owlt _ _ hb
     rcases he.own b (by rw[h]; simp) with h2|h2
     ·omega
     ·exact absurd eX h2
 have dt:FI N w' G' { st with heap:=h' } a vs lm:=by
  refine⟨hf.len,λi t u h1 h2=>(hf.var i t u h1 h2).keep cR cU (by simp[Key.isH]) (by simp[Key.isH]),λj t u h1 h2=>(hf.loc j t u h1 h2).keep cR cU (by simp[Key.isH]) (by simp[Key.isH]),hf.tv,hf.tl,(hf.defers.trans cR.df.symm),hf.gen,?_,dE.fixlt,d7,dE.hdom⟩
  intro b k h
  cases hb:G.ow b with
  | some k0=>exact aT (hf.owlt _ _ hb) he.size
  | none =>
    simp only[G',hb] at h
    exact dE.owlt _ _ h
 exact⟨G',cR,dt,rfl,rfl⟩
def OutR (N:Nm) (w':World) (G':GS) (e:Ending):Out→Prop
 | .val r=>∃v,e = .returned v∧VR N w' G'.fix G'.heap v r
 | .boom p=>∃v,e = .panicked [{ v,recovered:=false }]∧VR N w' G'.fix G'.heap v p
def Gf (N:Nm) (P:Program) (ob:zT):Prop:=
 ∀ (k : Nat) (args : List PV) (o : Out) (h h' : List PObj), ob k args h = some (o, h') → N.yl k = none → ∀ (w : World) (G : GS) (vals : Array Value), Between N w G h → vals.size = args.length →
   (∀(i:Nat) (v:Value) (p:PV),vals[i]? = some v→args[i]? = some p→VR N w G.fix G.heap v p) →
   Calls P (N.fn k) vals w λe w'=>∃G',OutR N w' G' e o∧Ext w G w' G'∧Between N w' G' h'
def Ik (N:Nm) (P:Program) (ob:zT):Prop:=
 ∀ (k : Nat) (y : YL) (n l : Nat) (tmps : Array Value) (caps args : List PV) (o : Out) (h h' : List PObj), N.yl k = some y → ob k (.ptr n 0 :: caps ++ args) h = some (o, h') → ∀ (w : World) (G : GS) (vals : Array Value), Between N w G h →
   VR N w G.fix G.heap (.func (.yield l) #[] #[]) (.func k (.ptr n 0::caps) [])→vals.size=args.length→(∀(i:Nat) (v:Value) (p:PV),vals[i]? = some v→args[i]? = some p→VR N w G.fix G.heap v p) →
   ∃tmps',(Instr.yield l vals).run P w = .ok (.round l y.fn tmps' y.assign y.body) w∧∀r n',RoundIn (W r) n' P l y.fn tmps' y.assign y.body w λe w'=>∃G',OutR N w' G' e o∧Ext w G w' G'∧Between N w' G' h'
variable {ops:Array Oper} {o:Oper} {j:Nat} {Q:Exit→Act→World→Prop} {K:Act→World→Prop} {r:Option Nat} {n:Nat}
def KF (N:Nm) (w:World) (G:GS) (a:Act) (st1:St) (vs:List Tmp) (lm:Nat→Option Tmp) (p:PV) (Q:Exit→Act→World→Prop):Prop:=
 ∀w' G' v,VR N w' G'.fix G'.heap v p→Ext w G w' G'→FI N w' G' st1 a vs lm→Q (.panic [{ v,recovered:=false }]) a w'
theorem OW (nm:Names vs (x7 vs ops.toList)) (ho:ops[j]? = some o) (hf:FI N w G st a vs (x7 vs ops.toList)) {out:Out} {h':List PObj} (hQ:¬LetsOut Q)
  (hv:∀u,out = .val u→Next1 N w G a (put { st with heap:=h' } j (yF vs o.dst) (dem u)) vs ops.toList K) (hb:∀p,out = .boom p→KF N w G a { st with heap:=h' } vs (x7 vs ops.toList) p Q)
  {e:Ending} {w':World} {G2:GS} (h:OutR N w' G2 e out) (he:Ext w G.callee w' G2) (dE:Between N w' G2 h'):
  (match e with
   | .returned v=>K (a.put o.dst v) w'
   | .panicked chain=>Q (.panic chain) a w'
   | .outgrown=>LetsOut Q):=by
 obtain⟨G',cR,dt,e1,e2⟩:=Ke hf he dE
 cases out with
 | val u =>
   obtain⟨v,rfl,cZ⟩:=h
   have gt:VR N w' G'.fix G'.heap v (dem u):=by rw[e1,e2]; exact cZ.dem
   exact hv u rfl _ _ G' (dt.put nm (BJ (by simpa using ho)) (SR.of_pure gt cZ.cp_dem)) cR (BK _ _ _)
 | boom p =>
   obtain⟨v,rfl,cZ⟩:=h
   exact hb p rfl w' G' v (by rw[e1,e2]; exact cZ) cR dt
theorem UI {c:Call} (cW:o.op = .call c) (ρ:Operand→Value):o.semAt (W r).round ρ=execOp ρ o:=Oper.semAt_eq _ _ _ (λc' h=>by rw[cW] at h; cases h)
theorem UJ {L:Nat→Option PFunc} (hF:Ag N P L) (hE:EnvOk E N) (nm:Names vs (x7 vs ops.toList)) (ho:ops[j]? = some o) (hf:FI N w G st a vs (x7 vs ops.toList)) {ob:zT} (dO:Gf N P ob) (jt:∀k args h x,ob k args h=some x→∃f,L k=some f)
  {f:FuncId} {k:Nat} {xs:Array Operand} {ts:Array TypeId} {pxs:List PX} {args:List PV} (cW:o.op = .call { callee := .value (.func f),args:=xs,argTypes:=ts }) (dq:E.inv f=some k) (hx:cxs E vs ops.toList xs.toList=some pxs)
  (eF:rdAll st pxs=some args) {out:Out} {h':List PObj} (hc:ob k args st.heap=some (out,h')) (hQ:¬LetsOut Q)
  (hv:∀u,out = .val u→Next1 N w G a (put { st with heap:=h' } j (yF vs o.dst) (dem u)) vs ops.toList K) (hb:∀p,out = .boom p→KF N w G a { st with heap:=h' } vs (x7 vs ops.toList) p Q):o.wpIn (W r) n P a w K Q:=by
 obtain⟨h1,h2⟩:=Ck hE hf hx eF
 obtain⟨g1,g2⟩:=Ey (w:=w) (G:=G) h1 h2
 obtain⟨pf,hL⟩:=jt _ _ _ _ hc
 have fK:=hE.fn _ _ dq
 refine⟨λ_ _=>Cj _,?_⟩
 rw[UI cW]
 have cT:(execOp a.eval o).run P w = .ok (.enter (N.fn k) (xs.map a.eval)) w:=by
  have:=C4 hF hL (xs.map a.eval) w
  rw[fK] at this
  rw[fK]
  simp[execOp,cW,resolve,Act.eval,Deferred.ofValue,invoke]
  exact this
 rw[cT,Oper.uponIn_enter]
 refine⟨Gt,Kf ?_⟩
 refine(dO k args out st.heap h' hc (hE.yl _ _ dq) w G.callee (xs.map a.eval) (Gi hf) g1 g2).mono ?_
 rintro e w' ⟨G2,hR,he,dE⟩
 have:=OW nm ho hf hQ hv hb hR he dE
 cases e<;>exact this
theorem UK {L:Nat→Option PFunc} (hF:Ag N P L) (hE:EnvOk E N) (nm:Names vs (x7 vs ops.toList)) (ho:ops[j]? = some o) (hf:FI N w G st a vs (x7 vs ops.toList)) {ob:zT} (dO:Gf N P ob) (ef:Ik N P ob) (jt:∀k args h x,ob k args h=some x→∃f,L k=some f)
  {t:Tmp} {px:PX} {k:Nat} {first captured:List PV} {xs:Array Operand} {ts:Array TypeId} {pxs:List PX} {args:List PV} (cW:o.op = .call { callee := .value (.tmp t),args:=xs,argTypes:=ts }) (gj:cx E vs ops.toList (.tmp t)=some px) (hx:cxs E vs ops.toList xs.toList=some pxs)
  (mZ:rd st px=some (.func k first captured)) (eF:rdAll st pxs=some args) {out:Out} {h':List PObj} (hc:ob k (first++args++captured) st.heap=some (out,h')) (hQ:¬LetsOut Q)
  (hv:∀u,out = .val u→Next1 N w G a (put { st with heap:=h' } j (yF vs o.dst) (dem u)) vs ops.toList K) (hb:∀p,out = .boom p→KF N w G a { st with heap:=h' } vs (x7 vs ops.toList) p Q):o.wpIn (W r) n P a w K Q:=by
 obtain⟨h1,h2⟩:=Ck hE hf hx eF
 obtain⟨g1,g2⟩:=Ey (w:=w) (G:=G) h1 h2
 obtain⟨pf,hL⟩:=jt _ _ _ _ hc
 have iQ:=(yH hE gj hf mZ).1
 refine⟨λ_ _=>Cj _,?_⟩
 rw[UI cW]
 generalize ey:a.eval (.tmp t)=v at iQ
 cases iQ with
 | yield _ m l y tmps caps hy hl hr cS dc db =>
   have cZ:VR N w G.callee.fix G.callee.heap (.func (.yield l) #[] #[]) (.func k (.ptr m 0::caps) []) := .yield k m l y tmps caps hy hl hr cS dc db
   rw[be] at hc
   obtain⟨tmps',p7,eQ⟩:=ef k y m l tmps caps args out st.heap h' hy hc w G.callee (xs.map a.eval) (Gi hf) cZ g1 g2
   have cT:(execOp a.eval o).run P w = .ok (.round l y.fn tmps' y.assign y.body) w:=by
    simp only[execOp,cW,resolve,Sem.run_bind,ey,Deferred.ofValue,Sem.run_pure,Result.andThen_ok,invoke]
    simpa using p7
   rw[cT,Oper.uponIn_round]
   refine⟨Gt,(eQ r (n - 1)).mono ?_⟩
   rintro e w' ⟨G2,hR,he,dE⟩
   have:=OW nm ho hf hQ hv hb hR he dE
   cases e<;>exact this
 | func _ fs cs _ _ hy e1 e2 nW dS =>
   have cT:(execOp a.eval o).run P w = .ok (.enter (N.fn k) (fs++xs.map a.eval++cs)) w:=by
    have:=C4 hF hL (fs++xs.map a.eval++cs) w
    simp only[execOp,cW,resolve,Sem.run_bind,ey,Deferred.ofValue,Sem.run_pure,Result.andThen_ok,invoke]
    exact this
   rw[cT,Oper.uponIn_enter]
   refine⟨Gt,Kf ?_⟩
   refine(dO k _ out st.heap h' hc hy w G.callee (fs++xs.map a.eval++cs) (Gi hf) (by simp[e1,e2]; simpa using h1) ?_).mono ?_
   ·intro i v p ev hp
    by_cases hi:i<fs.size
    ·rw[Array.append_assoc,bY hi] at ev
     rw[aN,al (by omega)] at hp
     exact nW i v p ev hp
    ·rw[Array.append_assoc,cP (by omega)] at ev
     rw[aN,aq (by omega),← e1] at hp
     by_cases eH:i - fs.size<(xs.map a.eval).size
     ·rw[bY eH] at ev
      rw[al (by omega)] at hp
      exact g2 _ v p ev hp
     ·rw[cP (by omega)] at ev
      rw[aq (by omega),← g1] at hp
      exact dS _ v p ev hp
   ·rintro e w' ⟨G2,hR,he,dE⟩
    have:=OW nm ho hf hQ hv hb hR he dE
    cases e<;>exact this
theorem SZ {L:Nat→Option PFunc} (hF:Ag N P L) (hE:EnvOk E N) (hP:E.P=P) (nm:Names vs (x7 vs ops.toList)) (ho:ops[j]? = some o) (hf:FI N w G st a vs (x7 vs ops.toList)) {cf:yg} (dK:CallOK N P cf) {ob:zT} (dO:Gf N P ob) (ef:Ik N P ob)
  (eL:∀k args h x,cf k args h=some x→∃f,L k=some f) (jt:∀k args h x,ob k args h=some x→∃f,L k=some f) (hd:∀c,o.op≠.defer c) {po:PO} (hc:Il E vs ops.toList o=some po) {res:Option PV} {st1:St} (hs:AA cf ob j po st=some (res,st1)) (hQ:¬LetsOut Q)
  (hk:res=none→Next1 N w G a st1 vs ops.toList K) (hb:∀p,res=some p→KF N w G a st1 vs (x7 vs ops.toList) p Q):wpOpIn (W r) n P ops Q j K a w:=by
 have plain:∀{po:PO},Iq E vs ops.toList o=some po→AA cf ob j po st=some (res,st1)→wpOpIn (W r) n P ops Q j K a w:=by
  intro po hc hs
  simp only[Iq,aj] at hc
  obtain⟨p,hp,hc⟩:=hc
  split at hc
  ·simp at hc
  ·rename_i xX
   simp only[aa] at hc
   subst hc
   rw[Tt (by simpa using xX)] at hs
   simp only[ab,ac] at hs
   obtain⟨st2,h1,rfl,rfl⟩:=hs
   refine ND (λo' c eA =>?_) hQ (Kc hF hE hP nm ho hf dK eL hp h1 (hk rfl))
   rw[ho] at eA
   simp only[aa] at eA
   subst eA
   exact hd c
 unfold Il at hc
 split at hc
 ·rename_i dst f xs ts ty pos aft
  split at hc
  ·simp only[aj,ab] at hc
   obtain⟨k,dq,ps,fo,rfl⟩:=hc
   simp only[AA] at hs
   split at hs
   ·rename_i us eF
    unfold wpOpIn
    simp only[ho,Region.wanted,if_true]
    split at hs
    ·rename_i u h' dh
     simp only[aa,ac] at hs
     obtain⟨rfl,rfl⟩:=hs
     exact UJ hF hE nm ho hf dO jt rfl dq fo eF dh hQ (λu' e=>by cases e; exact hk rfl) (λp e=>by cases e)
    ·rename_i v h' dh
     simp only[aa,ac] at hs
     obtain⟨rfl,rfl⟩:=hs
     exact UJ hF hE nm ho hf dO jt rfl dq fo eF dh hQ (λu' e=>by cases e) (λp e=>by cases e; exact hb _ rfl)
    ·simp at hs
   ·simp at hs
  ·exact plain hc hs
 ·rename_i dst t xs ts ty pos aft
  split at hc
  ·simp only[aj,ab] at hc
   obtain⟨px,gj,ps,fo,rfl⟩:=hc
   simp only[AA] at hs
   split at hs
   ·rename_i k first captured us mZ eF
    unfold wpOpIn
    simp only[ho,Region.wanted,if_true]
    split at hs
    ·rename_i u h' dh
     simp only[aa,ac] at hs
     obtain⟨rfl,rfl⟩:=hs
     exact UK hF hE nm ho hf dO ef jt rfl gj fo mZ eF dh hQ (λu' e=>by cases e; exact hk rfl) (λp e=>by cases e)
    ·rename_i v h' dh
     simp only[aa,ac] at hs
     obtain⟨rfl,rfl⟩:=hs
     exact UK hF hE nm ho hf dO ef jt rfl gj fo mZ eF dh hQ (λu' e=>by cases e) (λp e=>by cases e; exact hb _ rfl)
    ·simp at hs
   ·simp at hs
  ·exact plain hc hs
 ·exact plain hc hs
end
end PI
set_option linter.unusedSimpArgs false
set_option linter.unusedVariables false
namespace PI
open Go
def wpN (r:Option Nat) (fid:FuncId) (P:Program) (c:Code) (Q:Exit→Act→World→Prop) (a:Act) (w:World):Prop:=
 ∀ (b : Frame) (k : List Item) (cs : List Frame), b.roundOf = r → b.fn = fid →
   ∃e a' w',Q e a' w'∧ArrivesIn (Machine.fenced P (W r)) P (lone (b.atR a (.code c::k)) cs w) b k cs e a' w'
section
variable {P:Program} {r:Option Nat} {fid:FuncId} {n:Nat} {Q:Exit→Act→World→Prop} {a:Act} {w:World}
theorem E6 {c:Code} (h:c.wpIn (W r) n P Q a w):wpN r fid P c Q a w:=λb k cs ef _=>h b k cs ef (Cj _) (Is _)
theorem c6p {c:Code} {Q':Exit→Act→World→Prop} (h:wpN r fid P c Q a w) (hq:∀e a w,Q e a w→Q' e a w):wpN r fid P c Q' a w:=
 λb k cs ef hb=>let ⟨e,a',w',q,r⟩:=h b k cs ef hb; ⟨e,a',w',hq _ _ _ q,r⟩
theorem c6q (h:Q .normal a w):wpN r fid P .skip Q a w:=λ_ _ _ _ _=>⟨.normal,a,w,h,.one (Bx _) stepR_skip⟩
theorem S2 {id:Nat} (h:Q (.exit id) a w):wpN r fid P (.exit id) Q a w:=
 λ_ k _ _ _=>⟨.exit id,a,w,h,λ_ hk => .one (Bx _) (stepR_exit hk),λ_ hk=>⟨k,hk,.refl _⟩⟩
theorem S3 (h:Q .ret a w):wpN r fid P .ret Q a w:=
 λ_ k _ _ _=>⟨.ret,a,w,h,λhn=>⟨_,.one (Bx _) (stepR_ret hn)⟩,λ_=>⟨k,.refl _⟩⟩
theorem FG {x y:Code} (h:wpN r fid P x (Exit.then (wpN r fid P y Q) Q) a w):wpN r fid P (.seq x y) Q a w:=by
 intro b k cs ef hb
 have h0:(lone (b.atR a (.code (.seq x y)::k)) cs w).fenced P (W r):=Bx _
 obtain⟨e,a₁,w₁,hq,dG⟩:=h b (.code y::k) cs ef hb
 cases e with
 | normal =>
   obtain⟨e₂,a₂,w₂,hq₂,harr₂⟩:=hq b k cs ef hb
   exact⟨e₂,a₂,w₂,hq₂,.of_steps (.head h0 stepR_seq dG) harr₂⟩
 | exit id=>exact⟨_,a₁,w₁,hq,.of_steps (.one h0 stepR_seq) (.pass (x := .code y) rfl (λ_ _ => .inl (by simp)) dG)⟩
 | goto l=>exact⟨_,a₁,w₁,hq,.of_steps (.one h0 stepR_seq) (.pass (x := .code y) rfl (λ_ _ => .inl (by simp)) dG)⟩
 | ret=>exact⟨_,a₁,w₁,hq,.of_steps (.one h0 stepR_seq) (.pass (x := .code y) rfl (λ_ _ => .inl (by simp)) dG)⟩
 | panic ch=>exact⟨_,a₁,w₁,hq,.of_steps (.one h0 stepR_seq) (.pass (x := .code y) rfl (λ_ _ => .inl (by simp)) dG)⟩
 | outgrown=>exact⟨_,a₁,w₁,hq,.of_steps (.one h0 stepR_seq) (.pass (x := .code y) rfl (λ_ _ => .inl (by simp)) dG)⟩
theorem NG {c:Operand} {x y:Code} {t:Bool} (hc:a.eval c = .bool t) (h:wpN r fid P (if t then x else y) Q a w):wpN r fid P (.cond c x y) Q a w:=
 λb k cs ef hb=>let ⟨e,a',w',q,r⟩:=h b k cs ef hb; ⟨e,a',w',q,.of_steps (.one (Bx _) (stepR_cond hc)) r⟩
theorem c4h {id:Nat} {c:Code} (h:wpN r fid P c (Exit.inBlock id Q) a w):wpN r fid P (.block id c) Q a w:=by
 intro b k cs ef hb
 have h0:(lone (b.atR a (.code (.block id c)::k)) cs w).fenced P (W r):=Bx _
 obtain⟨e,a₁,w₁,hq,dG⟩:=h b (.inBlock id::k) cs ef hb
 cases e with
 | normal=>exact⟨.normal,a₁,w₁,hq,.head h0 stepR_block (StepsIn.trans dG (.one (Bx _) stepR_inBlock))⟩
 | exit id' =>
   by_cases jh:id'=id
   ·simp only[Exit.inBlock,jh,if_true] at hq
    exact⟨.normal,a₁,w₁,hq,.head h0 stepR_block (dG.1 k (by simp[exitTo,jh]))⟩
   ·simp only[Exit.inBlock,jh,if_false] at hq
    have this:(id==id')=false:=by simp; exact λh=>jh h.symm
    have hx:exitTo id' (.inBlock id::k)=exitTo id' k:=by simp[exitTo,this]
    exact⟨.exit id',a₁,w₁,hq,λk' hk => .head h0 stepR_block (dG.1 k' (by rw[hx]; exact hk)),
     λgL hk=>let ⟨k₁,h1,h2⟩:=dG.2 gL (by rw[hx]; exact hk); ⟨k₁,h1,.head h0 stepR_block h2⟩⟩
 | goto l =>
   have hx:gotoIn l (.inBlock id::k)=gotoIn l k:=by simp[gotoIn]
   exact⟨_,a₁,w₁,hq,λk' hk => .head h0 stepR_block (dG.1 k' (by rw[hx]; exact hk)),
    λgL hk=>let ⟨k₁,h1,h2⟩:=dG.2 gL (by rw[hx]; exact hk); ⟨k₁,h1,.head h0 stepR_block h2⟩⟩
 | ret=>exact⟨_,a₁,w₁,hq,.of_steps (.one h0 stepR_block) dG⟩
 | panic ch=>exact⟨_,a₁,w₁,hq,.of_steps (.one h0 stepR_block) dG⟩
 | outgrown=>exact⟨_,a₁,w₁,hq,.of_steps (.one h0 stepR_block) dG⟩
def Gh (r:Option Nat) (fid:FuncId) (P:Program) (c:Code) (Q:Exit→Act→World→Prop):Nat→Act→World→Prop
 | 0,_,_=>False
 | m+1,a,w=>wpN r fid P c (Exit.then (Gh r fid P c Q m) Q) a w
theorem b8G {c:Code} {m:Nat}:Gh r fid P c Q (m+1) a w=wpN r fid P c (Exit.then (Gh r fid P c Q m) Q) a w:=rfl
theorem b4w {c:Code} (m:Nat) (h:Gh r fid P c Q m a w):wpN r fid P (.loop c) Q a w:=by
 intro b k cs ef hb
 have key:∀m a w,Gh r fid P c Q m a w →
   ∃e a' w',Q e a' w'∧ArrivesIn (Machine.fenced P (W r)) P (lone (b.atR a (.code c :: .inLoop c::k)) cs w) b k cs e a' w':=by
  intro m
  induction m with
  | zero=>intro a w h; exact h.elim
  | succ m ih =>
    intro a w h
    obtain⟨e,a₁,w₁,hq,dG⟩:=h b (.inLoop c::k) cs ef hb
    cases e with
    | normal =>
      obtain⟨e₂,a₂,w₂,hq₂,harr₂⟩:=ih a₁ w₁ hq
      exact⟨e₂,a₂,w₂,hq₂,.of_steps (StepsIn.trans dG (.one (Bx _) stepR_inLoop)) harr₂⟩
    | exit id=>exact⟨_,a₁,w₁,hq,.pass (x := .inLoop c) rfl (λ_ _ => .inl (by simp)) dG⟩
    | goto l=>exact⟨_,a₁,w₁,hq,.pass (x := .inLoop c) rfl (λ_ _ => .inl (by simp)) dG⟩
    | ret=>exact⟨_,a₁,w₁,hq,.pass (x := .inLoop c) rfl (λ_ _ => .inl (by simp)) dG⟩
    | panic ch=>exact⟨_,a₁,w₁,hq,.pass (x := .inLoop c) rfl (λ_ _ => .inl (by simp)) dG⟩
    | outgrown=>exact⟨_,a₁,w₁,hq,.pass (x := .inLoop c) rfl (λ_ _ => .inl (by simp)) dG⟩
 obtain⟨e,a',w',hq,dG⟩:=key m a w h
 exact⟨e,a',w',hq,.of_steps (.one (Bx _) stepR_loop) dG⟩
theorem S4 {g:Operand} {ps:Array Tmp} {assign body:Code} {l:Nat} {mark:List Deferred} {w₁:World} {d:Deferred} {f:FuncId} {args:Array Value}
  (he:(Instr.enterLoop fid a.tmps ps assign body none).run P w = .ok (l,mark) w₁) (dQ:(resolve a.eval (rangeCall g l) 0).run P w₁ = .ok d w₁) (j7:(invoke d.target d.args).run P w₁ = .ok (.enter f args) w₁)
  (hc:Calls P f args w₁ fun
   | .returned _, w₃ => ∃ j w₄, (Instr.endLoop l).run P w₃ = .ok j w₄ ∧ (match j with
     | none=>Q .normal { a with defers:=mark++a.defers } w₄
     | some c=>wpN none fid P c Q { a with defers:=mark++a.defers } w₄)
   | .panicked chain,w₃=>Q (.panic chain) { a with defers:=mark++a.defers } w₃
   | .outgrown,_=>LetsOut Q):wpN none fid P (.rangeFunc g ps assign body) Q a w:=by
 intro b k cs ef hb
 subst hb
 rw[← ef] at he
 have eS:=stepR_rangeFunc (P:=P) (b:=b) (a:=a) (k:=k) (cs:=cs) (w:=w) he dQ j7
 obtain⟨e,w₃,fr,hR,jD,fK,lC⟩:=(Kf (r:=none) (n:=0) hc).2 (b.atR { a with defers:=mark++a.defers } (.inRangeFunc l::k)::cs) (Is _)
 cases e with
 | outgrown =>
   obtain⟨a₀,w₀,hq⟩:=hR
   exact⟨.outgrown,a₀,w₀,hq,.inr (Outgrown.of_steps (.one eS) jD)⟩
 | returned v =>
   obtain⟨j,w₄,fN,hj⟩:=hR
   have sback:StepsIn (Machine.fenced P (W none)) P (lone (b.atR a (.code (.rangeFunc g ps assign body)::k)) cs w) (lone (b.atR { a with defers:=mark++a.defers } ((j.map Item.code).toList++k)) cs w₄):=by
    refine .head (Bx _) eS (StepsIn.trans jD (.head (Bx _) ?_ (.one (Bx _) (stepR_endRangeFunc (b:=b) (a:={ a with defers:=mark++a.defers }) (k:=k) fN))))
    rw[← finish_atR_inRangeFunc l v]; exact step_leave_returned lC
   cases j with
   | none=>exact⟨.normal,_,w₄,hj,sback⟩
   | some c =>
     obtain⟨e₂,a₂,w₅,hq,hr⟩:=hj b k cs ef rfl
     exact⟨e₂,a₂,w₅,hq,.of_steps sback hr⟩
 | panicked chain =>
   refine⟨.panic chain,_,w₃,hR,.inRangeFunc l::k,.head (Bx _) eS (StepsIn.trans jD (.one (Bx _) ?_))⟩
   rw[← Frame.raise_atR]; exact step_leave_panicked lC
def Tg (P:Program) (fn:Func) (R:Ending→World→Prop):Exit→Act→World→Prop
 | .normal,a,w | .ret,a,w=>LeavesInM (W none) 0 P fn a.tmps R a.defers .returning w
 | .panic chain,a,w=>LeavesInM (W none) 0 P fn a.tmps R a.defers (.panicking chain) w
 | _,_,_=>False
theorem Th {f:FuncId} {fn:Func} {c:Code} {args:Array Value} {R:Ending→World→Prop} (hf:P.funcs[f]? = some fn) (hb:fn.body=some c)
  (h:wpN none f P c (Tg P fn R) { tmps:=args++Array.replicate (fn.ntmps - args.size) undef,defers:=[] } w):Calls P f args w R:=by
 refine c1F (r:=none) (n:=0) ⟨trivial,λcs hr =>?_⟩
 let b:Frame:={ (default:Frame) with fn:=f,kind := .normal,roundOf:=none }
 have eS:Frame.enter P f args .normal=b.atR { tmps:=args++Array.replicate (fn.ntmps - args.size) undef,defers:=[] } [.code c]:=by
  simp[Frame.enter,Frame.atR,hf,hb,b]
 obtain⟨e,a',w',hq,dG⟩:=h b [] cs rfl rfl
 rw[← eS] at dG
 cases e with
 | normal =>
   obtain⟨e',w'',fr',hR,hs,fK,hl⟩:=leaves_stepsInM a'.defers .returning w' { b.atR a' [] with mode := .returning } cs rfl rfl rfl hf rfl trivial (Is _) hq
   exact⟨e',w'',fr',hR,ComesIn.of_steps (StepsIn.trans dG (.one (Bx _) (stepR_end rfl))) hs,fK,hl⟩
 | ret =>
   obtain⟨todo,hs₀⟩:=dG.1 rfl
   obtain⟨e',w'',fr',hR,hs,fK,hl⟩:=leaves_stepsInM a'.defers .returning w' { b.atR a' todo with mode := .returning } cs rfl rfl rfl hf rfl trivial (Is _) hq
   exact⟨e',w'',fr',hR,ComesIn.of_steps hs₀ hs,fK,hl⟩
 | panic chain =>
   obtain⟨todo,hs₀⟩:=dG
   obtain⟨e',w'',fr',hR,hs,fK,hl⟩:=leaves_stepsInM a'.defers (.panicking chain) w' { b.atR a' todo with mode := .panicking chain } cs rfl rfl rfl hf rfl trivial (Is _) hq
   exact⟨e',w'',fr',hR,ComesIn.of_steps hs₀ hs,fK,hl⟩
 | exit id=>exact hq.elim
 | goto l=>exact hq.elim
 | outgrown=>exact hq.elim
theorem d3u {l:Nat} {f:FuncId} {fn:Func} {tmps:Array Value} {assign body:Code} {R:Ending→World→Prop} (fK:P.funcs[f]? = some fn)
  (h:wpN (some l) f P assign (Exit.then (λa₁ w₁=>∃w₂,(Instr.beginRound l).run P w₁ = .ok () w₂∧wpN (some l) f P body (NX P l R) a₁ w₂) (λ_ _ _=>False)) { tmps:=tmps,defers:=[] } w):
  RoundIn (W r) n P l f tmps assign body w R:=by
 refine⟨Cj _,λc cs hr =>?_⟩
 let b:Frame:={ (default:Frame) with fn:=f,kind := .normal,roundOf:=some l }
 have ji:Frame.round l f tmps assign body .normal=b.atR { tmps:=tmps,defers:=[] } [.code assign,.beginRound,.code body]:=by
  simp[Frame.round,Frame.atR,b]
 obtain⟨e,a₁,w₁,hq,dG⟩:=h b [.beginRound,.code body] (c::cs) rfl rfl
 rw[← ji] at dG
 cases e with
 | normal =>
   obtain⟨w₂,fy,iJ⟩:=hq
   have s1:StepsIn (Machine.fenced P (W (some l))) P (lone (b.atR a₁ [.beginRound,.code body]) (c::cs) w₁) (lone (b.atR a₁ [.code body]) (c::cs) w₂):=
    .one (Bx _) (stepR_beginRound rfl fy)
   obtain⟨e₂,a₂,w₃,hq₂,harr₂⟩:=iJ b [] (c::cs) rfl rfl
   cases e₂ with
   | normal =>
     obtain⟨v,w₄,fN,hR⟩:=hq₂
     exact⟨.returned v,w₄,hR,(StepsIn.trans dG s1).trans (StepsIn.trans harr₂ (.one (Bx _) (stepR_round_end rfl rfl fN)))⟩
   | panic chain =>
     obtain⟨hd,hR⟩:=hq₂
     obtain⟨todo,hs⟩:=harr₂
     refine⟨.panicked chain,w₃,hR,(StepsIn.trans dG s1).trans (StepsIn.trans hs (.one (Bx _) (b2F (fn:=fn) rfl ?_ fK)))⟩
     exact hd
   | ret =>
     obtain⟨v,w₄,fN,hR⟩:=hq₂
     obtain⟨k₁,hs⟩:=harr₂.2 rfl
     exact⟨.returned v,w₄,hR,(StepsIn.trans dG s1).trans (StepsIn.trans hs (.one (Bx _) (stepR_round_ret rfl rfl fN)))⟩
   | exit id =>
     obtain⟨v,w₄,fN,hR⟩:=hq₂
     obtain⟨k₁,hk,hs⟩:=harr₂.2 rfl rfl
     exact⟨.returned v,w₄,hR,(StepsIn.trans dG s1).trans (StepsIn.trans hs (.one (Bx _) (stepR_round_exit rfl rfl hk fN)))⟩
   | goto t=>exact hq₂.elim
   | outgrown=>exact hq₂.elim
 | exit id=>exact hq.elim
 | goto t=>exact hq.elim
 | ret=>exact hq.elim
 | panic chain=>exact hq.elim
 | outgrown=>exact hq.elim
end
end PI
set_option linter.unusedSimpArgs false
set_option linter.unusedVariables false
namespace PI
open Go Go.RowKit
section
variable {E:Env} {N:Nm} {w:World} {G:GS} {st:St} {a:Act} {vs:List Tmp} {lm:Nat→Option Tmp} {P:Program}
theorem S5 (hf:FI N w G st a vs lm) {n b:Nat} {ob':PObj} {mob:Obj} (hb:G.heap n=some b) (how:G.ow b=some (.hobj n))
  (rS:∀o,¬G.fix b o) (ja:w.shape? b=none) (mD:∀s,Bj w b=some s→Bj { w with heap:=w.heap.setIfInBounds b mob } b=some s)
  (hR:ob' = .gone∨ObjR N { w with heap:=w.heap.setIfInBounds b mob } G n b ob'):
  Ext w G { w with heap:=w.heap.setIfInBounds b mob } G∧FI N { w with heap:=w.heap.setIfInBounds b mob } G (yw st n ob') a vs lm:=by
 let w':World:={ w with heap:=w.heap.setIfInBounds b mob }
 have gf:b<w.heap.size:=hf.owlt _ _ how
 have dj:∀x,x≠b→w'.heap[x]? = w.heap[x]? := λx hx=>by
  simp only[w',bx]; rw[ae (by omega)]
 have cR:Ext w G w' G:=by
  refine⟨rfl,rfl,rfl,by simp[w'],λx _ li=>dj x (by rintro rfl; rw[how] at li; simp at li),?_,λ_ _ h => .inl h,λ_ h => .inr h,λ_ _ h=>h,.one b (λk _ hk=>dj k hk) (λs hx=>by rw[ja] at hx; simp at hx) mD,rfl⟩
  intro x o' gx
  have ik:x≠b:=by rintro rfl; exact rS _ gx
  refine⟨gx,?_⟩
  simp only[World.cell?,dj x ik]
 have cU:zo (λk=>k = .hobj n) w G w' G:=by
  refine⟨?_,λ_ _ h=>h⟩
  intro x k hx iS
  have ik:x≠b:=by rintro rfl; rw[how] at hx; simp at hx; exact iS hx.symm
  exact⟨hx,dj x ik,λ_ h=>h⟩
 have dt:FI N w' G (yw st n ob') a vs lm:=by
  refine⟨hf.len,λi t' u' h1 h2=>(hf.var i t' u' h1 h2).keep cR cU (by simp) (by simp),λi t' u' h1 h2=>(hf.loc i t' u' h1 h2).keep cR cU (by simp) (by simp),hf.tv,hf.tl,hf.defers,hf.gen,?_,?_,?_,?_⟩
  ·intro b' k di; simpa[w'] using hf.owlt _ _ di
  ·intro b' k di; simpa[w'] using hf.fixlt _ _ di
  ·exact hf.heap.keepBut cR cU (λm k da=>⟨by simp; omega,by simp⟩) (λ_=>hR.imp id λhR=>⟨b,hb,how,hR⟩)
  ·intro m b' h; have:=hf.hdom _ _ h; simpa[yw] using this
 exact⟨cR,dt⟩
theorem c8A (hf:FI N w G st a vs lm) {ob:PObj} {mob:Obj}
  (hR:∀G',G'=G.more w.heap.size st.heap.length→Ext w G (w.alloc mob) G'→ObjR N (w.alloc mob) G' st.heap.length w.heap.size ob):
  Ext w G (w.alloc mob) (G.more w.heap.size st.heap.length)∧FI N (w.alloc mob) (G.more w.heap.size st.heap.length) { st with heap:=st.heap++[ob] } a vs lm:=by
 let G':GS:=G.more w.heap.size st.heap.length
 have cR:Ext w G (w.alloc mob) G':=by
  refine⟨rfl,rfl,rfl,by simp,λb hb _=>Ax hb,λb o h=>⟨h,Fa (hf.fixlt _ _ h)⟩,λ_ _ h => .inl h,?_,?_,.same λk hk=>Ax hk,rfl⟩
  ·intro b hb
   by_cases cV:b<w.heap.size
   ·refine .inr ?_
    simp only[G',GS.more] at hb
    rw[ae (by omega)] at hb
    exact hb
   ·exact .inl (by omega)
  ·intro n b h
   have:=hf.hdom _ _ h
   simp only[G',GS.more]
   rw[ae (by omega)]; exact h
 have cU:zo (λ_=>False) w G (w.alloc mob) G':=by
  refine⟨?_,λ_ _ h=>h⟩
  intro b k hb _
  have cV:=hf.owlt _ _ hb
  refine⟨?_,Ax cV,λ_ h=>h⟩
  simp only[G',GS.more]
  rw[ae (by omega)]; exact hb
 have dt:FI N (w.alloc mob) G' { st with heap:=st.heap++[ob] } a vs lm:=by
  refine⟨hf.len,λi t u h1 h2=>(hf.var i t u h1 h2).keep cR cU (λh=>h) (λ_ _ _ h=>h),λj t u h1 h2=>(hf.loc j t u h1 h2).keep cR cU (λh=>h) (λ_ _ _ h=>h),hf.tv,hf.tl,hf.defers,hf.gen,?_,?_,?_,?_⟩
  ·intro b k hb
   simp only[G',GS.more] at hb
   split at hb
   ·simp; omega
   ·have:=hf.owlt _ _ hb; simp; omega
  ·intro b o h; have:=hf.fixlt _ _ h; simp; omega
  ·exact hf.heap.push cR cU (λ_ _ _ => .inr ⟨λh=>h,λh=>h⟩) (.inr ⟨w.heap.size,by simp[G',GS.more],by simp[G',GS.more],hR G' rfl cR⟩)
  ·intro n b h
   simp only[G',GS.more] at h
   simp only[ap,cL]
   split at h
   ·omega
   ·have:=hf.hdom _ _ h; omega
 exact⟨cR,dt⟩
theorem c3w (hf:FI N w G st a vs lm) (mob:Obj):Ext w G (w.alloc mob) G∧FI N (w.alloc mob) G st a vs lm:=by
 have cR:Ext w G (w.alloc mob) G:=
  ⟨rfl,rfl,rfl,by simp,λb hb _=>Ax hb,λb o h=>⟨h,Fa (hf.fixlt _ _ h)⟩,λ_ _ h => .inl h,λ_ h => .inr h,λ_ _ h=>h,.same λk hk=>Ax hk,rfl⟩
 have cU:zo (λ_=>False) w G (w.alloc mob) G:=⟨λb k hb _=>⟨hb,Ax (hf.owlt _ _ hb),λ_ h=>h⟩,λ_ _ h=>h⟩
 exact⟨cR,hf.ext cR cU hf.gen (λb k h=>by have:=hf.owlt _ _ h; simp; omega) (λb o h=>by have:=hf.fixlt _ _ h; simp; omega)⟩
theorem FI.setDf (hf:FI N w G st a vs lm) (ds:List Deferred):FI N w { G with df:=ds } st { a with defers:=ds } vs lm:=
 ⟨hf.len,hf.var,hf.loc,hf.tv,hf.tl,rfl,hf.gen,hf.owlt,hf.fixlt,hf.heap,hf.hdom⟩
theorem Ext.setDf {w':World} {G':GS} (h:Ext w G w' G') (ds:List Deferred):Ext w { G with df:=ds } w' { G' with df:=ds }:=
 ⟨h.os,h.tape,h.output,h.size,h.same,h.fix,h.newfix,h.own,h.heap,h.shape,rfl⟩
def ExtD (w:World) (G:GS) (w':World) (G':GS):Prop:=Ext w { G with df:=G'.df } w' G'
theorem ExtD.of {w':World} {G':GS} (h:Ext w G w' G'):ExtD w G w' G':=by
 have:=h.setDf G'.df
 exact this
theorem ExtD.refl (w:World) (G:GS):ExtD w G w G := .of (Ext.refl w G)
theorem ExtD.trans {w1 w2:World} {G1 G2:GS} (h:ExtD w G w1 G1) (k:ExtD w1 G1 w2 G2):ExtD w G w2 G2:=by
 have h1:=Ext.setDf h G2.df
 exact Ext.trans h1 k
theorem ExtD.to {w':World} {G':GS} (h:ExtD w G w' G') (hd:G'.df=G.df):Ext w G w' G':=by
 unfold ExtD at h
 rw[hd] at h
 exact h
def Marks (w w':World) (G':GS) (ms:List Deferred):Prop:=
 ∃bs:List Nat,ms=bs.map (λb=>{ target := .collected b,args := #[] })∧bs.Nodup∧∀b∈bs,w.heap.size≤b∧w'.heap[b]? = some (.deferred (some []))∧G'.ow b=none
theorem Marks.nil (w w':World) (G':GS):Marks w w' G' []:=⟨[],rfl,List.nodup_nil,by simp⟩
theorem Marks.lt {w':World} {G':GS} {b:Nat} (h:w'.heap[b]? = some (.deferred (some []))):b<w'.heap.size:=(aZ.1 h).1
theorem Marks.join {w1 w2:World} {G1 G2:GS} {ms1 ms2:List Deferred} (hs:w.heap.size≤w1.heap.size) (h1:Marks w w1 G1 ms1) (e:ExtD w1 G1 w2 G2) (h2:Marks w1 w2 G2 ms2):Marks w w2 G2 (ms2++ms1):=by
 obtain⟨b1,rfl,n1,k1⟩:=h1
 obtain⟨b2,rfl,n2,k2⟩:=h2
 refine⟨b2++b1,by simp,?_,?_⟩
 ·rw[bW]
  refine⟨n2,n1,?_⟩
  rintro x hx y hy rfl
  have:=(k2 x hx).1
  have:=Marks.lt (G':=G1) (k1 x hy).2.1
  omega
 ·intro b hb
  rcases ay.1 hb with hb|hb
  ·obtain⟨j1,j2,j3⟩:=k2 b hb
   exact⟨by omega,j2,j3⟩
  ·obtain⟨j1,j2,j3⟩:=k1 b hb
   have cV:=Marks.lt (G':=G1) j2
   refine⟨j1,(Ext.same e b cV j3).trans j2,?_⟩
   cases hx:G2.ow b with
   | none=>rfl
   | some k =>
     rcases Ext.own e b (by rw[hx]; simp) with h|h
     ·omega
     ·exact absurd j3 h
end
def If (nt:Nat) (ops:List Oper):Bool:=ops.all λo=>match o.dst with | some t=>decide (t<nt) | none=>true
def J2 (ops:List Oper):Bool:=ops.all λo=>match o.op with | .defer _=>false | _=>true
def Do (E:Env) (nt:Nat) (vs:List Tmp) (ops:Array Oper) (draw:Bool):Option (List PO):=
 if E2 vs ops.toList&&If nt ops.toList&&J2 ops.toList then
  (Er E vs ops.toList ops.toList).bind λpos=>if draw && !E3 ops pos then none else some pos
 else none
def E4 (E:Env) (nt:Nat) (vs:List Tmp) (ops:Array Oper) (draw:Bool):Option (List PO):=
 if E2 vs ops.toList&&If nt ops.toList&&J2 ops.toList then
  (Ig E vs ops.toList ops.toList).bind λpos=>if draw && !E3 ops pos then none else some pos
 else none
def Ih (E:Env) (nt:Nat) (vs:List Tmp) (ops:Array Oper):Option (List PO×Nat×PX):=
 if E2 vs ops.toList&&If nt ops.toList&&J2 ops.toList then
  match ops.toList.drop (ops.size - 2) with
  | [{ dst := some d, op := .makeInterface T x, guard := none, .. }, { op := .panic (.tmp d'), guard := none, .. }] =>
    match E.P.underlying T with
    | none | some (.interface _)=>none
    | some _=>if d=d'∧(zG d vs 0).isNone∧2≤ops.size then(Er E vs ops.toList (ops.toList.take (ops.size - 2))).bind λpos=>(cx E vs ops.toList x).bind λpx=>(zG T E.pt 0).map λi=>(pos,i+1,px) else none
  | _=>none
 else none
def Nx (E:Env) (nt:Nat) (vs:List Tmp) (ops:Array Oper):Option (Nat×List PX):=
 match ops.toList with
 | [{ dst := some d, op := .makeFunc (.func f) first caps, guard := none, .. }, { dst := none, op := .defer { callee := .value (.tmp d'), args, .. }, guard := none, .. }] =>
   if d=d'∧(zG d vs 0).isNone∧d<nt∧first.toList=[]∧args.toList=[] then(E.inv f).bind λk=>(cxs E vs [] caps.toList).map λps=>(k,ps) else none
 | _=>none
inductive Cmp (E:Env) (nt:Nat) (vs:List Tmp):Code→PC→Prop where
 | skip:Cmp E nt vs .skip .skip
 | region (id:Nat) (ops:Array Oper) (d:Bool) (pos:List PO) (h:Do E nt vs ops d=some pos):Cmp E nt vs (.region id ops d) (.region pos)
 | bregion (id:Nat) (ops:Array Oper) (d:Bool) (pos:List PO) (h:E4 E nt vs ops d=some pos):Cmp E nt vs (.region id ops d) (.bregion pos)
 | raise (id:Nat) (ops:Array Oper) (pos:List PO) (t:Nat) (px:PX) (h:Ih E nt vs ops=some (pos,t,px)):Cmp E nt vs (.region id ops false) (.raise pos t px)
 | branch (id : Nat) (ops : Array Oper) (d : Bool) (pos : List PO) (c : Operand) (px : PX) (x y : Code) (px1 px2 : PC) (h : Do E nt vs ops d = some pos) (hc : cx E vs ops.toList c = some px) (hx : Cmp E nt vs x px1) (hy : Cmp E nt vs y px2) :
   Cmp E nt vs (.seq (.region id ops d) (.cond c x y)) (.branch pos px px1 px2)
 | branchSeq (id : Nat) (ops : Array Oper) (d : Bool) (pos : List PO) (c : Operand) (px : PX) (x y r : Code) (px1 px2 pr : PC) (h : Do E nt vs ops d = some pos) (hc : cx E vs ops.toList c = some px) (hx : Cmp E nt vs x px1) (hy : Cmp E nt vs y px2) (hr : Cmp E nt vs r pr) :
   Cmp E nt vs (.seq (.region id ops d) (.seq (.cond c x y) r)) (.seq (.branch pos px px1 px2) pr)
 | bbranch (id : Nat) (ops : Array Oper) (d : Bool) (pos : List PO) (c : Operand) (px : PX) (x y : Code) (px1 px2 : PC) (h : E4 E nt vs ops d = some pos) (hc : cx E vs ops.toList c = some px) (hx : Cmp E nt vs x px1) (hy : Cmp E nt vs y px2) :
   Cmp E nt vs (.seq (.region id ops d) (.cond c x y)) (.bbranch pos px px1 px2)
 | bbranchSeq (id : Nat) (ops : Array Oper) (d : Bool) (pos : List PO) (c : Operand) (px : PX) (x y r : Code) (px1 px2 pr : PC) (h : E4 E nt vs ops d = some pos) (hc : cx E vs ops.toList c = some px) (hx : Cmp E nt vs x px1) (hy : Cmp E nt vs y px2) (hr : Cmp E nt vs r pr) :
   Cmp E nt vs (.seq (.region id ops d) (.seq (.cond c x y) r)) (.seq (.bbranch pos px px1 px2) pr)
 | guarded (id:Nat) (ops:Array Oper) (kd:Nat) (caps:List PX) (y:Code) (q:PC) (h:Nx E nt vs ops=some (kd,caps)) (hy:Cmp E nt vs y q):Cmp E nt vs (.seq (.region id ops false) y) (.guarded kd caps q)
 | seq (x y:Code) (p q:PC) (hx:Cmp E nt vs x p) (hy:Cmp E nt vs y q):Cmp E nt vs (.seq x y) (.seq p q)
 | cond (c:Operand) (px:PX) (x y:Code) (p q:PC) (hc:cx E vs [] c=some px) (hx:Cmp E nt vs x p) (hy:Cmp E nt vs y q):Cmp E nt vs (.cond c x y) (.branch [] px p q)
 | block (id:Nat) (x:Code) (p:PC) (hx:Cmp E nt vs x p):Cmp E nt vs (.block id x) (.block id p)
 | loop (x:Code) (p:PC) (hx:Cmp E nt vs x p):Cmp E nt vs (.loop x) (.loop p)
 | rangeF (g : Operand) (ps : Array Tmp) (as body : Code) (px : PX) (kb : Nat) (vars : List Tmp) (caps : List PX) (hg : cx E vs [] g = some px) (hl : (ps, kb, vars) ∈ E.lps) (hv : cxs E vs [] (vars.map .tmp) = some caps) :
   Cmp E nt vs (.rangeFunc g ps as body) (.rangeF px kb caps)
 | stuck (x:Code):Cmp E nt vs x Ci
 | exit (id:Nat):Cmp E nt vs (.exit id) (.exit id)
 | ret:Cmp E nt vs .ret .ret
def J3 (E:Env) (nt:Nat) (vs:List Tmp) (ops:Array Oper) (d:Bool):PC:=
 if ST E ops.toList then(match E4 E nt vs ops d with | some pos => .bregion pos | none=>Ci)
 else match Do E nt vs ops d with
  | some pos=>if d then .region pos else(match Ih E nt vs ops with | some r => .raise r.1 r.2.1 r.2.2 | none => .region pos)
  | none=>if d then Ci else(match Ih E nt vs ops with | some r => .raise r.1 r.2.1 r.2.2 | none=>Ci)
def brC (E:Env) (nt:Nat) (vs:List Tmp) (ops:Array Oper) (d:Bool) (c:Operand) (p q:PC):PC:=
 if ST E ops.toList then(match E4 E nt vs ops d,cx E vs ops.toList c with | some pos,some px => .bbranch pos px p q | _,_=>Ci)
 else match Do E nt vs ops d,cx E vs ops.toList c with
  | some pos,some px => .branch pos px p q
  | _,_=>Ci
theorem SU {E:Env} {nt:Nat} {vs:List Tmp} (id:Nat) (ops:Array Oper) (d:Bool):Cmp E nt vs (.region id ops d) (J3 E nt vs ops d):=by
 unfold J3
 split
 ·split
  ·exact .bregion id ops d _ (by assumption)
  ·exact .stuck _
 ·split
  ·split
   ·exact .region id ops d _ (by assumption)
   ·rename_i hd
    have:d=false:=by simpa using hd
    subst this
    split
    ·exact .raise id ops _ _ _ (by assumption)
    ·exact .region id ops false _ (by assumption)
  ·split
   ·exact .stuck _
   ·rename_i hd
    have:d=false:=by simpa using hd
    subst this
    split
    ·exact .raise id ops _ _ _ (by assumption)
    ·exact .stuck _
theorem c8r {E:Env} {nt:Nat} {vs:List Tmp} (id:Nat) (ops:Array Oper) (d:Bool) (c:Operand) {x y:Code} {p q:PC} (hx:Cmp E nt vs x p) (hy:Cmp E nt vs y q):Cmp E nt vs (.seq (.region id ops d) (.cond c x y)) (brC E nt vs ops d c p q):=by
 unfold brC
 split
 ·split
  ·exact .bbranch id ops d _ c _ x y p q (by assumption) (by assumption) hx hy
  ·exact .stuck _
 ·split
  ·exact .branch id ops d _ c _ x y p q (by assumption) (by assumption) hx hy
  ·exact .stuck _
def J4:PC→Bool
 | .branch [] (.c .dead) .skip .skip=>true
 | _=>false
theorem c8s {E:Env} {nt:Nat} {vs:List Tmp} (id:Nat) (ops:Array Oper) (d:Bool) (c:Operand) {x y r:Code} {p q pr:PC} (hx:Cmp E nt vs x p) (hy:Cmp E nt vs y q) (hr:Cmp E nt vs r pr):
  Cmp E nt vs (.seq (.region id ops d) (.seq (.cond c x y) r)) (if J4 (brC E nt vs ops d c p q) then Ci else .seq (brC E nt vs ops d c p q) pr):=by
 split
 ·exact .stuck _
 ·rename_i hs
  unfold brC at hs ⊢
  split
  ·rename_i hb
   rw[ai hb] at hs
   split
   ·exact .bbranchSeq id ops d _ c _ x y r p q pr (by assumption) (by assumption) hx hy hr
   ·rename_i h1
    split at hs
    ·rename_i a b h2 h3; exact absurd rfl (λe:(0:Nat)=0=>h1 _ _ h2 h3)
    ·simp[J4,Ci] at hs
  ·rename_i hb
   rw[ae hb] at hs
   split
   ·exact .branchSeq id ops d _ c _ x y r p q pr (by assumption) (by assumption) hx hy hr
   ·rename_i h1
    split at hs
    ·rename_i a b h2 h3; exact absurd rfl (λe:(0:Nat)=0=>h1 _ _ h2 h3)
    ·simp[J4,Ci] at hs
def Af (E:Env) (nt:Nat) (vs:List Tmp):Code→PC
 | .skip => .skip
 | .region _ ops d=>J3 E nt vs ops d
 | .seq (.region _ ops d) (.cond c x y)=>brC E nt vs ops d c (Af E nt vs x) (Af E nt vs y)
 | .seq (.region _ ops d) (.seq (.cond c x y) r)=>if J4 (brC E nt vs ops d c (Af E nt vs x) (Af E nt vs y)) then Ci else .seq (brC E nt vs ops d c (Af E nt vs x) (Af E nt vs y)) (Af E nt vs r)
 | .seq (.region _ ops false) y => match Nx E nt vs ops with
   | some r => .guarded r.1 r.2 (Af E nt vs y)
   | none => .seq (J3 E nt vs ops false) (Af E nt vs y)
 | .seq x y => .seq (Af E nt vs x) (Af E nt vs y)
 | .cond c x y => match cx E vs [] c with
   | some px => .branch [] px (Af E nt vs x) (Af E nt vs y)
   | none=>Ci
 | .block id x => .block id (Af E nt vs x)
 | .loop x => .loop (Af E nt vs x)
 | .rangeFunc g ps _ _ => match cx E vs [] g, E.lps.find? (fun y => y.1 == ps) with
   | some px, some y => match cxs E vs [] (y.2.2.map .tmp) with
     | some caps => .rangeF px y.2.1 caps
     | none=>Ci
   | _,_=>Ci
 | .exit id => .exit id
 | .ret => .ret
 | _=>Ci
theorem Ii {E:Env} {nt:Nat} {vs:List Tmp}:∀{c:Code},Cmp E nt vs c (Af E nt vs c):=by
 intro c
 fun_induction Af E nt vs c with
 | case1=>exact .skip
 | case2 id ops d=>exact SU id ops d
 | case3 id ops d c x y ihx ihy=>exact c8r id ops d c ihx ihy
 | case4=>exact .stuck _
 | case5 id ops d c x y r h ihx ihy ihr =>
   have:=c8s id ops d c ihx ihy ihr
   rw[ae h] at this
   exact this
 | case6 id ops y _ _ r h ihy=>exact .guarded id ops _ _ y _ h ihy
 | case7 id ops y _ _ h ihy=>exact .seq _ y _ _ (SU id ops false) ihy
 | case8 x y _ _ _ ihx ihy=>exact .seq x y _ _ ihx ihy
 | case9 c x y px h ihx ihy=>exact .cond c px x y _ _ h ihx ihy
 | case10=>exact .stuck _
 | case11 id x ih=>exact .block id x _ ih
 | case12 x ih=>exact .loop x _ ih
 | case13 g ps a b px y e1 e2 caps e3 =>
   have h2:E.lps.find? (λy=>y.1==ps)=some y:=by assumption
   have hm:=List.mem_of_find?_eq_some h2
   have he:=List.find?_some h2
   obtain⟨y1,y2,y3⟩:=y
   have fL:y1=ps:=by simpa using he
   subst fL
   exact .rangeF g y1 a b px y2 y3 caps (by assumption) hm (by assumption)
 | case14=>exact .stuck _
 | case15=>exact .stuck _
 | case16 id=>exact .exit id
 | case17=>exact .ret
 | case18=>exact .stuck _
structure BI (N:Nm) (w:World) (G:GS) (st:St) (a:Act) (vs:List Tmp) (nt:Nat):Prop where
 fi:FI N w G st a vs (λ_=>none)
 size:nt≤a.tmps.size
theorem Ij (w:World) (G:GS):Ext w G w.drew G:=
 ⟨rfl,rfl,rfl,an _,λ_ _ _=>rfl,λ_ _ h=>⟨h,rfl⟩,λ_ _ h => .inl h,λ_ h => .inr h,λ_ _ h=>h,ShapeLe.refl w,rfl⟩
theorem SV (w:World) (G:GS):zo (λ_=>False) w G w.drew G:=⟨λ_ _ h _=>⟨h,rfl,λ_ h=>h⟩,λ_ _ h=>h⟩
section
variable {E:Env} {N:Nm} {vs:List Tmp} {P:Program} {nt:Nat} {Q:Exit→Act→World→Prop}
theorem FI.begin {w:World} {G:GS} {st:St} {a:Act} (h:BI N w G st a vs nt) (lm:Nat→Option Tmp) (hl:∀j t,lm j=some t→t<nt) (n:Nat):FI N w G (CI n st) a vs lm:=by
 refine⟨h.fi.len,h.fi.var,?_,h.fi.tv,λj t hj=>aT (hl j t hj) h.size,h.fi.defers,h.fi.gen,h.fi.owlt,h.fi.fixlt,h.fi.heap,h.fi.hdom⟩
 intro j t u _ hu
 simp only[CI,cu] at hu
 split at hu
 ·simp at hu; subst hu; trivial
 ·simp at hu
theorem FI.finish {w:World} {G:GS} {st:St} {a:Act} {lm:Nat→Option Tmp} (h:FI N w G st a vs lm) (hs:nt≤a.tmps.size):BI N w G (zq st) a vs nt:=
 ⟨⟨h.len,h.var,(by intro j t u hj; simp at hj),h.tv,(by intro j t hj; simp at hj),h.defers,h.gen,h.owlt,h.fixlt,h.heap,h.hdom⟩,hs⟩
theorem J5 {ops:List Oper} (h:If nt ops=true):∀j t,x7 vs ops j=some t→t<nt:=by
 intro j t hj
 unfold x7 at hj
 split at hj
 ·rename_i o ho
  split at hj
  ·rename_i t' mf
   split at hj
   ·simp at hj
   ·simp at hj; subst hj
    have:=aJ.1 h o (ax ho)
    simpa[mf] using this
  ·simp at hj
 ·simp at hj
theorem Ny {ops:Array Oper} (h:J2 ops.toList=true):∀(i:Nat) (o:Oper) c,ops[i]? = some o→o.op≠.defer c:=by
 intro i o c ho e
 have:=aJ.1 h o (ax (by simpa using ho))
 rw[e] at this
 simp at this
theorem J6 (n:Nat):zH n (Array.replicate n false)=List.range' 0 n:=by
 rw[← cK]
 unfold zH
 rw[List.filter_eq_self]
 intro i hi
 have:i<n:=by simpa using hi
 simp[aV,this]
theorem SX (ops:Array Oper):J7 ops (Array.replicate ops.size false):=by
 intro k o ho eO
 have:k<ops.size:=(aZ.1 ho).1
 simp[aV,this] at eO
variable {L:Nat→Option PFunc} {r:Option Nat}
theorem SY (hF:Ag N P L) (hE:EnvOk E N) (hP:E.P=P) (dL:P.follows .mixedOrders=true) (dl:vs.Nodup) {cf:yg} (dK:CallOK N P cf) (eL:∀k args h r,cf k args h=some r→∃f,L k=some f)
  {id:Nat} {ops:Array Oper} {d:Bool} {pos:List PO} (hc:Do E nt vs ops d=some pos) {w:World} {G:GS} {st st':St} {a:Act} (hs:Az cf pos st=some st') (hb:BI N w G st a vs nt) (hQ:¬LetsOut Q)
  (hk:∀a' w' G',FI N w' G' st' a' vs (x7 vs ops.toList)→Ext w G w' G'→nt≤a'.tmps.size→Q .normal a' w'):(Code.region id ops d).wpIn (W r) 0 P Q a w:=by
 unfold Do at hc
 split at hc
 ·rename_i cX
  simp only[ao] at cX
  simp only[aj] at hc
  obtain⟨pos',dr,hc⟩:=hc
  split at hc
  ·simp at hc
  ·rename_i fM
   simp at hc; subst hc
   have nm:=J8 dl cX.1.1
   have cS:ops.size=pos'.length:=by have:=(E5 dr).1; simpa using this
   have ge:=FI.begin hb (x7 vs ops.toList) (J5 cX.1.2) pos'.length
   have hx:Ah cf pos' (List.range' 0 pos'.length) (CI pos'.length st)=some st':=by
    rw[← J9 (all:=pos') (by simp)]; exact hs
   have dq:Next1 N w G a st' vs ops.toList (Q .normal):=λa' w' G' h1 h2 h3=>hk a' w' G' h1 h2 (by rw[h3]; exact hb.size)
   have dl:=Ny cX.2
   cases d with
   | false =>
     refine wpIn_region (Nz dl hQ ?_)
     have:List.range ops.size=List.range' 0 pos'.length:=by rw[cS,cK]
     rw[this]
     exact NA hF hE hP nm dK eL dr hx ge dq
   | true =>
     have kW:E3 ops pos'=true:=by simpa using fM
     refine wpIn_region_draw λt=>Nz dl hQ ?_
     have mR:FI N w.drew G (CI pos'.length st) a vs (x7 vs ops.toList):=ge.ext (Ij w G) (SV w G) ge.gen ge.owlt ge.fixlt
     simp only[Region.schedule,dL,Bool.true_or,if_true]
     refine wpAny_sound ops.size t _ a _ ?_
     refine c3K hF hE hP nm dK eL dr kW ops.size (by simp) (by rw[J6]; simp) (SX ops) (by rw[J6,cS]; exact hx) mR (dq.trans (Ij w G) rfl)
 ·simp at hc
theorem NB (hF:Ag N P L) (hE:EnvOk E N) (hP:E.P=P) {ops:Array Oper} (nm:Names vs (x7 vs ops.toList)) {cf:yg} (dK:CallOK N P cf) {ob:zT} (dO:Gf N P ob) (ef:Ik N P ob)
  (eL:∀k args h x,cf k args h=some x→∃f,L k=some f) (jt:∀k args h x,ob k args h=some x→∃f,L k=some f) (hd:∀(i:Nat) (o:Oper) c,ops[i]? = some o→o.op≠.defer c) {pos:List PO} (dr:∀(i:Nat) (o:Oper),ops.toList[i]? = some o→∃p,pos[i]? = some p∧Il E vs ops.toList o=some p) (cS:ops.size=pos.length)
  {res:Option PV} {st':St} (hQ:¬LetsOut Q):
  ∀ {l : List Nat} {st : St} {w : World} {G : GS} {a : Act}, Bv cf ob pos l st = some (res, st') → FI N w G st a vs (x7 vs ops.toList) → (res = none → Next1 N w G a st' vs ops.toList (Q .normal)) →
    (∀p,res=some p→∀a' w' G' v,a'.tmps.size=a.tmps.size→VR N w' G'.fix G'.heap v p→Ext w G w' G'→FI N w' G' st' a' vs (x7 vs ops.toList)→Q (.panic [{ v,recovered:=false }]) a' w')→wpOpsIn (W r) 0 P ops Q l a w
 | [], st, w, G, a, h, hf, hk, hb => by
   simp only[Bv,aa,ac] at h
   obtain⟨rfl,rfl⟩:=h
   exact hk rfl _ _ G hf (Ext.refl _ _) rfl
 | i :: l, st, w, G, a, h, hf, hk, hb => by
   simp only[Bv] at h
   split at h
   ·rename_i p hp
    have hi:i<ops.size:=by rw[cS]; exact(ah.1 hp).1
    obtain⟨p',fk,gc⟩:=dr i ops[i] (by simp[hi])
    have:p'=p:=by rw[hp] at fk; simpa using fk.symm
    subst this
    rw[wpOpsIn_cons]
    have rO:ops[i]? = some ops[i]:=by simp[hi]
    split at h
    ·rename_i st1 hs
     refine SZ (res:=none) hF hE hP nm rO hf dK dO ef eL jt (λc=>hd i _ c rO) gc hs hQ ?_ (λp e=>by simp at e)
     intro _ a' w' G' iy he dc
     exact NB hF hE hP nm dK dO ef eL jt hd dr cS hQ h iy (λhn=>(hk hn).trans he dc)
      (λp hp a2 w2 G2 v h1 h2 h3 h4=>hb p hp a2 w2 G2 v (h1.trans dc) h2 (he.trans h3) h4)
    ·rename_i da
     have hs:AA cf ob i p' st=some (res,st'):=h
     cases res with
     | none=>exact absurd hs (da st')
     | some v =>
       refine SZ (res:=some v) hF hE hP nm rO hf dK dO ef eL jt (λc=>hd i _ c rO) gc hs hQ (λe=>by simp at e) ?_
       rintro p e w' G' u h1 h2 h3
       cases e
       exact hb v rfl a w' G' u rfl h1 h2 h3
   ·simp at h
theorem Ka:∀{os:List Oper} {pos:List PO} {ops:List Oper},Ig E vs ops os=some pos→os.length=pos.length∧∀(i:Nat) (o:Oper),os[i]? = some o→∃p,pos[i]? = some p∧Il E vs ops o=some p
 | [],pos,ops,h=>by simp[Ig] at h; subst h; simp
 | o :: os, pos, ops, h => by
   simp only[Ig,aj,ab] at h
   obtain⟨p,hp,ps,fo,rfl⟩:=h
   obtain⟨h1,h2⟩:=Ka fo
   refine⟨by simp[h1],?_⟩
   intro i x hx
   cases i with
   | zero=>simp at hx; subst hx; exact⟨p,rfl,hp⟩
   | succ i=>exact h2 i x (by simpa using hx)
theorem Kb (hF:Ag N P L) (hE:EnvOk E N) (hP:E.P=P) (dL:P.follows .mixedOrders=true) (dl:vs.Nodup) {cf:yg} (dK:CallOK N P cf) {ob:zT} (dO:Gf N P ob) (ef:Ik N P ob)
  (eL:∀k args h r,cf k args h=some r→∃f,L k=some f) (jt:∀k args h x,ob k args h=some x→∃f,L k=some f)
  {id:Nat} {ops:Array Oper} {d:Bool} {pos:List PO} (hc:E4 E nt vs ops d=some pos) {w:World} {G:GS} {st st':St} {a:Act} {res:Option PV} (hs:zL cf ob 0 pos (CI pos.length st)=some (res,st')) (hb:BI N w G st a vs nt) (hQ:¬LetsOut Q)
  (hk:res=none→∀a' w' G',FI N w' G' st' a' vs (x7 vs ops.toList)→Ext w G w' G'→nt≤a'.tmps.size→Q .normal a' w')
  (tg:∀p,res=some p→∀a' w' G' v,VR N w' G'.fix G'.heap v p→Ext w G w' G'→BI N w' G' (zq st') a' vs nt→Q (.panic [{ v,recovered:=false }]) a' w'):(Code.region id ops d).wpIn (W r) 0 P Q a w:=by
 unfold E4 at hc
 split at hc
 ·rename_i cX
  simp only[ao] at cX
  simp only[aj] at hc
  obtain⟨pos',dr,hc⟩:=hc
  split at hc
  ·simp at hc
  ·rename_i fM
   simp at hc; subst hc
   have nm:=J8 dl cX.1.1
   have cS:ops.size=pos'.length:=by have:=(Ka dr).1; simpa using this
   have ge:=FI.begin hb (x7 vs ops.toList) (J5 cX.1.2) pos'.length
   have hx:Bv cf ob pos' (List.range' 0 pos'.length) (CI pos'.length st)=some (res,st'):=by
    rw[← S0 (all:=pos') (by simp)]; exact hs
   have dq:res=none→Next1 N w G a st' vs ops.toList (Q .normal):=λhn a' w' G' h1 h2 h3=>hk hn a' w' G' h1 h2 (by rw[h3]; exact hb.size)
   have qx:∀p,res=some p→∀a' w' G' v,a'.tmps.size=a.tmps.size→VR N w' G'.fix G'.heap v p→Ext w G w' G'→FI N w' G' st' a' vs (x7 vs ops.toList)→Q (.panic [{ v,recovered:=false }]) a' w':=
    λp hp a' w' G' v h1 h2 h3 h4=>tg p hp a' w' G' v h2 h3 (FI.finish h4 (by rw[h1]; exact hb.size))
   have dl:=Ny cX.2
   cases d with
   | false =>
     refine wpIn_region ?_
     have:List.range ops.size=List.range' 0 pos'.length:=by rw[cS,cK]
     rw[this]
     exact NB hF hE hP nm dK dO ef eL jt dl (Ka dr).2 cS hQ hx ge dq qx
   | true =>
     have kW:E3 ops pos'=true:=by simpa using fM
     refine wpIn_region_draw λt =>?_
     have mR:FI N w.drew G (CI pos'.length st) a vs (x7 vs ops.toList):=ge.ext (Ij w G) (SV w G) ge.gen ge.owlt ge.fixlt
     simp only[Region.schedule,dL,Bool.true_or,if_true]
     have lF:=c8z cS kW ops.size t (listed:=Array.replicate ops.size false) (by simp) (by rw[J6]; simp) (SX ops) (by rw[J6,cS]; exact hx)
     exact NB hF hE hP nm dK dO ef eL jt dl (Ka dr).2 cS hQ lF mR (λhn=>(dq hn).trans (Ij w G) rfl)
      (λp hp a' w' G' v h1 h2 h3 h4=>qx p hp a' w' G' v h1 h2 ((Ij w G).trans h3) h4)
 ·simp at hc
theorem BI.putOther {w:World} {G:GS} {st:St} {a:Act} (h:BI N w G st a vs nt) {d:Tmp} (hd:(zG d vs 0).isNone=true) (v:Value):BI N w G st (a.put (some d) v) vs nt:=by
 refine⟨⟨h.fi.len,?_,(by intro j t u hj; simp at hj),λi t ht=>by simpa[Act.put] using h.fi.tv i t ht,(by intro j t hj; simp at hj),h.fi.defers,h.fi.gen,h.fi.owlt,h.fi.fixlt,h.fi.heap,h.fi.hdom⟩,by simpa[Act.put] using h.size⟩
 intro i t u h1 h2
 have da:t≠d:=by
  rintro rfl
  have:=NC h1 0
  simp at hd
  rw[hd] at this
  simp at this
 have:(a.put (some d) v).eval (.tmp t)=a.eval (.tmp t):=by
  simp only[Act.eval,Act.put,aV,bx]
  rw[ae (Ne.symm da)]
 rw[this]
 exact h.fi.var i t u h1 h2
theorem S1 (hF:Ag N P L) (hE:EnvOk E N) (hP:E.P=P) {ops:Array Oper} (nm:Names vs (x7 vs ops.toList)) {cf:yg} (dK:CallOK N P cf)
  (eL:∀k args h x,cf k args h=some x→∃f,L k=some f) (hd:∀(i:Nat) (o:Oper) c,ops[i]? = some o→o.op≠.defer c) {pos:List PO} (dr:∀(i:Nat) (p:PO),pos[i]? = some p→∃o,ops[i]? = some o∧FE E vs ops.toList o=some p)
  {st':St} (hQ:¬LetsOut Q) {rest:List Nat}:
  ∀{l:List Nat} {st:St} {w:World} {G:GS} {a:Act},Ah cf pos l st=some st'→FI N w G st a vs (x7 vs ops.toList)→Next1 N w G a st' vs ops.toList (wpOpsIn (W r) 0 P ops Q rest)→wpOpsIn (W r) 0 P ops Q (l++rest) a w
 | [], st, w, G, a, h, hf, hk => by
   simp only[Ah,aa] at h
   subst h
   exact hk _ _ G hf (Ext.refl _ _) rfl
 | i :: l, st, w, G, a, h, hf, hk => by
   simp only[Ah] at h
   split at h
   ·rename_i p hp
    simp only[aj] at h
    obtain⟨st1,h1,h2⟩:=h
    obtain⟨o,ho,gc⟩:=dr i p hp
    rw[aK,wpOpsIn_cons]
    refine ND (λo' c eA=>hd i o' c eA) hQ (Kc hF hE hP nm ho hf dK eL gc h1 ?_)
    intro a' w' G' iy he dc
    exact S1 hF hE hP nm dK eL hd dr hQ h2 iy (hk.trans he dc)
   ·simp at h
theorem b9r (hF:Ag N P L) (hE:EnvOk E N) (hP:E.P=P) (dl:vs.Nodup) {cf:yg} (dK:CallOK N P cf) (eL:∀k args h r,cf k args h=some r→∃f,L k=some f)
  {id:Nat} {ops:Array Oper} {pos:List PO} {t:Nat} {px:PX} (hc:Ih E nt vs ops=some (pos,t,px)) {w:World} {G:GS} {st st1:St} {a:Act} {u:PV} (hs:Az cf pos st=some st1) (hu:rd st1 px=some u) (hb:BI N w G st a vs nt) (hQ:¬LetsOut Q)
  (tg:∀a' w' G' v,VR N w' G'.fix G'.heap v (.iface t u)→Ext w G w' G'→BI N w' G' (zq st1) a' vs nt→Q (.panic [{ v,recovered:=false }]) a' w'):(Code.region id ops false).wpIn (W r) 0 P Q a w:=by
 unfold Ih at hc
 split at hc
 ·rename_i cX
  simp only[ao] at cX
  split at hc
  ·rename_i d T x ty1 p1 af1 dst2 d' ty2 p2 af2 jM
   split at hc
   ·simp at hc
   ·simp at hc
   ·rename_i tu th w9
    split at hc
    ·rename_i kz
     obtain⟨rfl,qy,h2⟩:=kz
     simp only[aj,ab,ac] at hc
     obtain⟨pos',dr,px',gj,i,hi,rfl,rfl,rfl⟩:=hc
     obtain⟨m,hm⟩:∃m,ops.size=m+2:=⟨ops.size - 2,by omega⟩
     rw[hm] at jM dr
     simp only[Nat.add_sub_cancel] at jM dr
     have nm:=J8 dl cX.1.1
     have fH:pos'.length=m:=by
      have:=(E5 dr).1
      rw[aY] at this
      simp at this
      omega
     have fj:=Ny cX.2
     have xa:∀(i:Nat) (p:PO),pos'[i]? = some p→∃o,ops[i]? = some o∧FE E vs ops.toList o=some p:=by
      intro i p hp
      have cV:=(ah.1 hp).1
      have mj:i<ops.size:=by omega
      obtain⟨p',fk,gc⟩:=(E5 dr).2 i ops[i] (by rw[cy (by omega)]; simp[mj])
      rw[hp] at fk
      cases fk
      exact⟨ops[i],by simp[mj],gc⟩
     have ge:=FI.begin hb (x7 vs ops.toList) (J5 cX.1.2) pos'.length
     have hx:Ah cf pos' (List.range' 0 pos'.length) (CI pos'.length st)=some st1:=by
      rw[← J9 (all:=pos') (by simp)]; exact hs
     have vi:ops.toList[m]? = some ⟨some d,.makeInterface T x,ty1,p1,af1,none⟩:=by
      have:=aI (·[0]?) jM
      simpa[bi] using this
     have tj:ops.toList[m+1]? = some ⟨dst2,.panic (.tmp d),ty2,p2,af2,none⟩:=by
      have:=aI (·[1]?) jM
      simpa[bi] using this
     have dm:d<nt:=by
      have:=aJ.1 cX.1.2 _ (ax vi)
      simpa using this
     have ju:List.range ops.size=List.range' 0 pos'.length++[m,m+1]:=by
      rw[hm,fH,cK,List.range'_eq_append_iff]
      exact⟨m,by omega,rfl,by rw[show m+2 - m=2 by omega]; simp[List.range'_succ]⟩
     refine wpIn_region ?_
     rw[ju]
     refine S1 hF hE hP nm dK eL fj xa hQ hx ge ?_
     intro a' w' G' iy he dc
     have ey:=(yH hE gj iy hu).1
     have xb:=hE.pt T i hi
     have xc:P.underlying T=some tu:=by rw[← hP]; exact w9
     rw[wpOpsIn_cons]
     unfold wpOpIn
     have ry:ops[m]? = some ⟨some d,.makeInterface T x,ty1,p1,af1,none⟩:=by simpa using vi
     have ve:ops[m+1]? = some ⟨dst2,.panic (.tmp d),ty2,p2,af2,none⟩:=by simpa using tj
     simp only[ry,Region.wanted,if_true]
     refine⟨λ_ _=>Cj _,?_⟩
     rw[Oper.semAt_eq _ _ _ (by simp)]
     have cT:(execOp a'.eval (⟨some d,.makeInterface T x,ty1,p1,af1,none⟩:Oper)).run P w' = .ok (.value (.iface T (a'.eval x))) w':=by
      have xd:=run_underlying xc w'
      simp only[execOp,Instr.makeInterface,Sem.run_bind,xd,Result.andThen_ok]
      cases tu<;>first|(exfalso; exact th _ rfl)|simp
     rw[cT,Oper.uponIn_value]
     rw[wpOpsIn_cons]
     unfold wpOpIn
     simp only[ve,Region.wanted,if_true]
     refine⟨λ_ _=>Cj _,?_⟩
     rw[Oper.semAt_eq _ _ _ (by simp)]
     have fB:(a'.put (some d) (.iface T (a'.eval x))).eval (.tmp d) = .iface T (a'.eval x):=by
      have:d<a'.tmps.size:=by rw[dc]; exact aT dm hb.size
      simp[Act.eval,Act.put,aV,bx,this]
     have kX:(execOp (a'.put (some d) (.iface T (a'.eval x))).eval (⟨dst2,.panic (.tmp d),ty2,p2,af2,none⟩:Oper)).run P w' = .halt (.panic (.iface T (a'.eval x))) w':=by
      simp only[execOp,Instr.panic,fB]
      rfl
     rw[kX,Oper.uponIn_panic]
     refine tg _ w' G' _ ?_ he ((FI.finish iy (by rw[dc]; exact hb.size)).putOther qy _)
     rw[← xb]
     exact .iface _ _ _ ey
    ·simp at hc
  ·simp at hc
 ·simp at hc
end
def PExit.plain:PExit→Bool
 | .after _ _ _=>false
 | _=>true
def Clo (N:Nm) (w':World) (G':GS) (kd:Nat) (caps:List PV):Prop:=
 ∃ (d : Deferred) (ds : List Deferred) (vals : Array Value), G'.df = d :: ds ∧ d = { target := .fn (.func (N.fn kd)) vals, args := #[] } ∧ vals.size = caps.length ∧
   ∀(i:Nat) (v:Value) (p:PV),vals[i]? = some v→caps[i]? = some p→VR N w' G'.fix G'.heap v p
def Bw (N:Nm) (w':World) (G':GS):PExit→Exit→Prop
 | .normal,e=>e = .normal
 | .exit id,e=>e = .exit id
 | .ret,e=>e = .ret
 | .boom p,e=>∃v,e = .panic [{ v,recovered:=false }]∧VR N w' G'.fix G'.heap v p
 | .after kd caps none,e=>(e = .normal∨e = .ret)∧Clo N w' G' kd caps
 | .after kd caps (some p),e=>(∃v,e = .panic [{ v,recovered:=false }]∧VR N w' G'.fix G'.heap v p)∧Clo N w' G' kd caps
def DfR (p:PC) (x:PExit) (w:World) (G:GS) (w':World) (G':GS):Prop:=
 match x with
 | .after _ _ _=>p.NR=true→∃d,G'.df=d::G.df
 | _=>∃ms,G'.df=ms++G.df∧Marks w w' G' ms∧(p.NR=true→ms=[])
def zR:Code→List (Array Tmp×Code×Code)
 | .seq a b | .cond _ a b=>zR a++zR b
 | .block _ c | .loop c=>zR c
 | .rangeFunc _ ps a b=>[(ps,a,b)]
 | _=>[]
def LpOK (E:Env) (N:Nm) (nt:Nat) (fid:FuncId) (c:Code):Prop:=
 ∀ps kb vars,(ps,kb,vars)∈E.lps→∀x∈zR c,x.1=ps→N.yl kb=some ⟨fid,ps,x.2.1,x.2.2,vars,nt⟩
theorem LpOK.sub {E:Env} {N:Nm} {nt:Nat} {fid:FuncId} {c c':Code} (h:LpOK E N nt fid c) (hs:∀x∈zR c',x∈zR c):LpOK E N nt fid c':=λps kb vars hl x hx=>h ps kb vars hl x (hs x hx)
theorem Ext.size_le {w w':World} {G G':GS} (h:ExtD w G w' G'):w.heap.size≤w'.heap.size:=Ext.size h
theorem DfR.plain {p:PC} {x:PExit} {w w':World} {G G':GS} (h:G'.df=G.df) (hx:∀kd caps v,x≠.after kd caps v):DfR p x w G w' G':=by
 unfold DfR
 cases x with
 | after kd caps v=>exact absurd rfl (hx kd caps v)
 | _=>exact⟨[],by simpa using h,Marks.nil _ _ _,λ_=>rfl⟩
theorem DfR.trans {p q s:PC} {x:PExit} {w w1 w2:World} {G G1 G2:GS} (e1:ExtD w G w1 G1) (h1:DfR p .normal w G w1 G1) (e2:ExtD w1 G1 w2 G2) (h2:DfR q x w1 G1 w2 G2) (hs:s.NR=true→p.NR=true∧q.NR=true):DfR s x w G w2 G2:=by
 obtain⟨ms,a1,a2,a3⟩:=h1
 have marks:∀ms2,G2.df=ms2++G1.df→Marks w1 w2 G2 ms2→(q.NR=true→ms2=[])→∃ms,G2.df=ms++G.df∧Marks w w2 G2 ms∧(s.NR=true→ms=[]):=by
  intro ms2 b1 b2 b3
  exact⟨ms2++ms,by rw[b1,a1]; simp,Marks.join (Ext.size_le e1) a2 e2 b2,λh=>by rw[b3 (hs h).2,a3 (hs h).1]; rfl⟩
 unfold DfR at h2 ⊢
 cases x with
 | after kd caps v =>
   intro h
   obtain⟨d,hd⟩:=h2 (hs h).2
   exact⟨d,by rw[hd,a1,a3 (hs h).1]; rfl⟩
 | normal=>obtain⟨ms2,b1,b2,b3⟩:=h2; exact marks ms2 b1 b2 b3
 | ret=>obtain⟨ms2,b1,b2,b3⟩:=h2; exact marks ms2 b1 b2 b3
 | exit id=>obtain⟨ms2,b1,b2,b3⟩:=h2; exact marks ms2 b1 b2 b3
 | boom v=>obtain⟨ms2,b1,b2,b3⟩:=h2; exact marks ms2 b1 b2 b3
theorem DfR.weak {p s:PC} {x:PExit} {w w1 w2:World} {G G1 G2:GS} (e1:ExtD w G w1 G1) (h1:G1.df=G.df) (e2:ExtD w1 G1 w2 G2) (h2:DfR p x w1 G1 w2 G2) (hs:s.NR=true→p.NR=true):DfR s x w G w2 G2:=
 DfR.trans (p := .skip) e1 (DfR.plain h1 (by simp)) e2 h2 (λh=>⟨rfl,hs h⟩)
theorem Dp {K:Act→World→Prop} {Q:Exit→Act→World→Prop} (h:¬LetsOut Q):¬LetsOut (Exit.then K Q):=fun⟨a,w,hq⟩=>h ⟨a,w,hq⟩
theorem NE {id:Nat} {Q:Exit→Act→World→Prop} (h:¬LetsOut Q):¬LetsOut (Exit.inBlock id Q):=fun⟨a,w,hq⟩=>h ⟨a,w,hq⟩
theorem DV {L:Nat→Option PFunc}:∀{n:Nat} {p:PC} {st st':St} {kd:Nat} {cs:List PV} {v:Option PV},p.RO=true→yf L n p st=some (.after kd cs v,st')→False
 | 0,p,st,st',kd,cs,v,_,h=>by simp[yf] at h
 | n + 1, p, st, st', kd, cs, v, hr, h => by
   rw[yf.eq_def] at h
   cases p with
   | rangeF x kb caps=>simp[PC.RO] at hr
   | guarded k2 caps c=>simp[PC.RO] at hr
   | round a b=>simp at h
   | skip=>simp at h
   | exit id=>simp at h
   | ret=>simp at h
   | region ops=>simp at h
   | raise ops t x =>
     simp only at h
     split at h
     ·rename_i st1 _
      cases hx:rd st1 x with
      | none=>rw[hx] at h; simp at h
      | some p=>rw[hx] at h; simp at h
     ·simp at h
   | bregion ops=>simp only at h; split at h<;>simp at h
   | branch ops x a b =>
     simp only[PC.RO,ao] at hr
     simp only at h
     split at h
     ·split at h
      ·rename_i t _
       cases t
       ·exact DV hr.2 h
       ·exact DV hr.1 h
      ·simp at h
     ·simp at h
   | bbranch ops x a b =>
     simp only[PC.RO,ao] at hr
     simp only at h
     split at h
     ·split at h
      ·rename_i t _
       cases t
       ·exact DV hr.2 h
       ·exact DV hr.1 h
      ·simp at h
     ·simp at h
     ·simp at h
   | seq a b =>
     simp only[PC.RO,ao] at hr
     simp only at h
     split at h
     ·exact DV hr.2 h
     ·simp at h
     ·exact DV hr.1 h
   | block id c =>
     simp only[PC.RO] at hr
     simp only at h
     split at h
     ·split at h<;>simp at h
     ·simp at h
     ·exact DV hr h
   | loop c =>
     have gL:=hr
     simp only[PC.RO] at hr
     simp only at h
     split at h
     ·exact DV gL h
     ·simp at h
     ·exact DV hr h
section
variable {E:Env} {N:Nm} {vs:List Tmp} {P:Program} {nt:Nat} {L:Nat→Option PFunc}
def KQ (N:Nm) (vs:List Tmp) (nt:Nat) (p:PC) (x:PExit) (st':St) (w:World) (G:GS) (Q:Exit→Act→World→Prop):Prop:=
 ∀a' w' G' e,Bw N w' G' x e→BI N w' G' st' a' vs nt→ExtD w G w' G'→DfR p x w G w' G'→Q e a' w'
theorem Kd {K:Act→World→Prop} {Q:Exit→Act→World→Prop} {p:PC} {x:PExit} {st':St} {w:World} {G:GS} (hx:x≠.normal) (ha:∀kd caps v,x≠.after kd caps v) (h:KQ N vs nt p x st' w G Q):KQ N vs nt p x st' w G (Exit.then K Q):=by
 intro a' w' G' e he hb cR hd
 have:=h a' w' G' e he hb cR hd
 cases x with
 | normal=>exact absurd rfl hx
 | after kd caps v=>exact absurd rfl (ha kd caps v)
 | exit id=>simp only[Bw] at he; subst he; exact this
 | ret=>simp only[Bw] at he; subst he; exact this
 | boom v=>obtain⟨u,rfl,_⟩:=he; exact this
structure Runs (N:Nm) (P:Program) (L:Nat→Option PFunc) (n:Nat):Prop where
 call:CallOK N P (zI (yf L n) L)
 out:Gf N P (z6 (yf L n) L)
 round:Ik N P (z6 (yf L n) L)
 yl:∀k,EB L k=true→N.yl k=none
theorem FF {n:Nat} {k:Nat} {args:List PV} {h:List PObj} {x} (hc:zI (yf L n) L k args h=some x):∃f,L k=some f:=by
 unfold zI at hc
 split at hc
 ·simp at hc
 ·rename_i f hf; exact⟨f,hf⟩
theorem Gg {n:Nat} {k:Nat} {args:List PV} {h:List PObj} {x} (hc:z6 (yf L n) L k args h=some x):∃f,L k=some f:=by
 unfold z6 at hc
 split at hc
 ·simp at hc
 ·rename_i f hf; exact⟨f,hf⟩
theorem Es (hF:Ag N P L) (hE:EnvOk E N) (hP:E.P=P) (dL:P.follows .mixedOrders=true) (dl:vs.Nodup) {fid:FuncId} {rd':Option Nat}:
  ∀ (n : Nat), (∀ m, m < n → Runs N P L m) → ∀ {c : Code} {p : PC} {x : PExit} {st st' : St} {w : World} {G : GS} {a : Act} {Q : Exit → Act → World → Prop}, Cmp E nt vs c p → yf L n p st = some (x, st') → BI N w G st a vs nt → LpOK E N nt fid c →
    (rd'=none∨p.RO=true)→¬LetsOut Q→KQ N vs nt p x st' w G Q→wpN rd' fid P c Q a w
 | 0,_,c,p,x,st,st',w,G,a,Q,_,h,_,_,_,_,_=>by simp[yf] at h
 | n + 1, dh, c, p, x, st, st', w, G, a, Q, hc, h, hb, hY, hR, hQ, hk => by
   have cT:=dh n (by omega)
   have branch:∀{m:Nat},m≤n→∀{id:Nat} {ops:Array Oper} {d:Bool} {pos:List PO} {cc:Operand} {px:PX} {x1 y1:Code} {p1 p2:PC} {Q:Exit→Act→World→Prop} {x:PExit} {st':St},Do E nt vs ops d=some pos→cx E vs ops.toList cc=some px→Cmp E nt vs x1 p1→Cmp E nt vs y1 p2 →
     LpOK E N nt fid x1→LpOK E N nt fid y1→(rd'=none∨(p1.RO=true∧p2.RO=true))→¬LetsOut Q →
     yf L (m+1) (.branch pos px p1 p2) st=some (x,st')→KQ N vs nt (.branch pos px p1 p2) x st' w G Q→wpN rd' fid P (.region id ops d) (Exit.then (wpN rd' fid P (.cond cc x1 y1) Q) Q) a w:=by
    intro m hm id ops d pos cc px x1 y1 p1 p2 Q x st' gC fc hx hy tn tp hR hQ h hk
    have ih := @Es hF hE hP dL dl fid rd' m (λm' kC=>dh m' (by omega))
    have cT:=dh m (by omega)
    simp only[yf] at h
    split at h
    ·rename_i st1 eY
     split at h
     ·rename_i t ht
      refine E6 (SY hF hE hP dL dl cT.call (λ_ _ _ _=>FF) gC eY hb (Dp hQ) ?_)
      intro a' w' G' hf he dc
      have fB:=(yH hE fc hf ht).1
      have fq:a'.eval cc = .bool t:=by generalize a'.eval cc=z at fB; cases fB; rfl
      have di:=FI.finish (nt:=nt) hf dc
      refine NG fq ?_
      have knext:∀(pq:PC),(pq=p1∨pq=p2)→KQ N vs nt pq x st' w' G' Q:=by
       intro pq qz a2 w2 G2 e2 h1 h2 h3 h4
       refine hk a2 w2 G2 e2 h1 h2 (ExtD.trans (.of he) h3) (DfR.weak (.of he) he.df h3 h4 ?_)
       intro hn
       simp only[PC.NR,ao] at hn
       rcases qz with rfl|rfl
       ·exact hn.1
       ·exact hn.2
      cases t with
      | true=>exact ih hx (by simpa using h) di tn (hR.imp (λh=>h) (·.1)) hQ (knext _ (.inl rfl))
      | false=>exact ih hy (by simpa using h) di tp (hR.imp (λh=>h) (·.2)) hQ (knext _ (.inr rfl))
     ·simp at h
    ·simp at h
   have bbranch:∀{m:Nat},m≤n→∀{id:Nat} {ops:Array Oper} {d:Bool} {pos:List PO} {cc:Operand} {px:PX} {x1 y1:Code} {p1 p2:PC} {Q:Exit→Act→World→Prop} {x:PExit} {st':St},E4 E nt vs ops d=some pos→cx E vs ops.toList cc=some px→Cmp E nt vs x1 p1→Cmp E nt vs y1 p2 →
     LpOK E N nt fid x1→LpOK E N nt fid y1→(rd'=none∨(p1.RO=true∧p2.RO=true))→¬LetsOut Q →
     yf L (m+1) (.bbranch pos px p1 p2) st=some (x,st')→KQ N vs nt (.bbranch pos px p1 p2) x st' w G Q→wpN rd' fid P (.region id ops d) (Exit.then (wpN rd' fid P (.cond cc x1 y1) Q) Q) a w:=by
    intro m hm id ops d pos cc px x1 y1 p1 p2 Q x st' gC fc hx hy tn tp hR hQ h hk
    have ih := @Es hF hE hP dL dl fid rd' m (λm' kC=>dh m' (by omega))
    have cT:=dh m (by omega)
    simp only[yf] at h
    split at h
    ·rename_i st1 eY
     split at h
     ·rename_i t ht
      refine E6 (Kb (res:=none) hF hE hP dL dl cT.call cT.out cT.round (λ_ _ _ _=>FF) (λ_ _ _ _=>Gg) gC eY hb (Dp hQ) ?_ (λp e=>by simp at e))
      intro _ a' w' G' hf he dc
      have fB:=(yH hE fc hf ht).1
      have fq:a'.eval cc = .bool t:=by generalize a'.eval cc=z at fB; cases fB; rfl
      have di:=FI.finish (nt:=nt) hf dc
      refine NG fq ?_
      have knext:∀(pq:PC),(pq=p1∨pq=p2)→KQ N vs nt pq x st' w' G' Q:=by
       intro pq qz a2 w2 G2 e2 h1 h2 h3 h4
       refine hk a2 w2 G2 e2 h1 h2 (ExtD.trans (.of he) h3) (DfR.weak (.of he) he.df h3 h4 ?_)
       intro hn
       simp only[PC.NR,ao] at hn
       rcases qz with rfl|rfl
       ·exact hn.1
       ·exact hn.2
      cases t with
      | true=>exact ih hx (by simpa using h) di tn (hR.imp (λh=>h) (·.1)) hQ (knext _ (.inl rfl))
      | false=>exact ih hy (by simpa using h) di tp (hR.imp (λh=>h) (·.2)) hQ (knext _ (.inr rfl))
     ·simp at h
    ·rename_i v st1 eY
     simp only[aa,ac] at h
     obtain⟨rfl,rfl⟩:=h
     refine E6 (Kb (res:=some v) hF hE hP dL dl cT.call cT.out cT.round (λ_ _ _ _=>FF) (λ_ _ _ _=>Gg) gC eY hb (Dp hQ) (λe=>by simp at e) ?_)
     rintro p e a' w' G' u hu he di
     cases e
     exact hk a' w' G' _ ⟨u,rfl,hu⟩ di (.of he) (DfR.plain he.df (by simp))
    ·simp at h
   have nrB:∀{pos:List PO} {px:PX} {p1 p2:PC},(rd'=none∨(PC.branch pos px p1 p2).RO=true)→(rd'=none∨(p1.RO=true∧p2.RO=true)):=by
    intro pos px p1 p2 h
    exact h.imp id (λh=>by simpa[PC.RO] using h)
   have nrBB:∀{pos:List PO} {px:PX} {p1 p2:PC},(rd'=none∨(PC.bbranch pos px p1 p2).RO=true)→(rd'=none∨(p1.RO=true∧p2.RO=true)):=by
    intro pos px p1 p2 h
    exact h.imp id (λh=>by simpa[PC.RO] using h)
   have ih := @Es hF hE hP dL dl fid rd' n (λm hm=>dh m (by omega))
   have up:∀{id:Nat} {ops:Array Oper} {d:Bool} {cc:Operand} {x1 y1 r:Code} {a:Act} {w:World},wpN rd' fid P (.region id ops d) (Exit.then (wpN rd' fid P (.cond cc x1 y1) (Exit.then (wpN rd' fid P r Q) Q)) (Exit.then (wpN rd' fid P r Q) Q)) a w→wpN rd' fid P (.region id ops d) (Exit.then (wpN rd' fid P (.seq (.cond cc x1 y1) r) Q) Q) a w:=by
    intro id ops d cc x1 y1 r a w hw
    refine c6p hw ?_
    intro e a' w' hq
    cases e<;>simp only[Exit.then] at hq ⊢
    ·exact FG hq
    all_goals exact hq
   cases hc with
   | stuck=>simp[Ci,yf,Az,AL,rd,raw,cp] at h
   | skip =>
     simp only[yf,aa,ac] at h
     obtain⟨rfl,rfl⟩:=h
     exact c6q (hk _ _ G .normal rfl hb (ExtD.refl _ _) (DfR.plain rfl (by simp)))
   | exit id =>
     simp only[yf,aa,ac] at h
     obtain⟨rfl,rfl⟩:=h
     exact S2 (hk _ _ G (.exit id) rfl hb (ExtD.refl _ _) (DfR.plain rfl (by simp)))
   | ret =>
     simp only[yf,aa,ac] at h
     obtain⟨rfl,rfl⟩:=h
     exact S3 (hk _ _ G .ret rfl hb (ExtD.refl _ _) (DfR.plain rfl (by simp)))
   | region id ops d pos gC =>
     simp only[yf,ab,ac] at h
     obtain⟨st1,eY,rfl,rfl⟩:=h
     exact E6 (SY hF hE hP dL dl cT.call (λ_ _ _ _=>FF) gC eY hb hQ (λa' w' G' hf he dc=>hk a' w' G' .normal rfl (FI.finish hf dc) (.of he) (DfR.plain he.df (by simp))))
   | bregion id ops d pos gC =>
     simp only[yf] at h
     split at h
     ·rename_i st1 eY
      simp only[aa,ac] at h
      obtain⟨rfl,rfl⟩:=h
      refine E6 (Kb (res:=none) hF hE hP dL dl cT.call cT.out cT.round (λ_ _ _ _=>FF) (λ_ _ _ _=>Gg) gC eY hb hQ ?_ (λp e=>by simp at e))
      intro _ a' w' G' hf he dc
      exact hk a' w' G' .normal rfl (FI.finish hf dc) (.of he) (DfR.plain he.df (by simp))
     ·rename_i v st1 eY
      simp only[aa,ac] at h
      obtain⟨rfl,rfl⟩:=h
      refine E6 (Kb (res:=some v) hF hE hP dL dl cT.call cT.out cT.round (λ_ _ _ _=>FF) (λ_ _ _ _=>Gg) gC eY hb hQ (λe=>by simp at e) ?_)
      rintro p e a' w' G' u hu he di
      cases e
      exact hk a' w' G' _ ⟨u,rfl,hu⟩ di (.of he) (DfR.plain he.df (by simp))
     ·simp at h
   | raise id ops pos t px gC =>
     simp only[yf] at h
     split at h
     ·rename_i st1 eY
      simp only[ab,ac] at h
      obtain⟨u,hu,rfl,rfl⟩:=h
      refine E6 (b9r hF hE hP dl cT.call (λ_ _ _ _=>FF) gC eY hu hb hQ ?_)
      intro a' w' G' v hv he di
      exact hk a' w' G' _ ⟨v,rfl,hv⟩ di (.of he) (DfR.plain he.df (by simp))
     ·simp at h
   | branch id ops d pos cc px x1 y1 p1 p2 gC fc hx hy =>
     exact FG (branch (an _) gC fc hx hy (hY.sub (λz hz=>by simp[zR,hz])) (hY.sub (λz hz=>by simp[zR,hz])) (nrB hR) hQ h hk)
   | bbranch id ops d pos cc px x1 y1 p1 p2 gC fc hx hy =>
     exact FG (bbranch (an _) gC fc hx hy (hY.sub (λz hz=>by simp[zR,hz])) (hY.sub (λz hz=>by simp[zR,hz])) (nrBB hR) hQ h hk)
   | branchSeq id ops d pos cc px x1 y1 r p1 p2 pr gC fc hx hy hr =>
     simp only[yf] at h
     refine FG ?_
     have hZ:rd'=none∨(PC.branch pos px p1 p2).RO=true:=hR.imp (λh=>h) (λh=>by simp only[PC.RO,ao] at h ⊢; exact h.1)
     have gw:rd'=none∨pr.RO=true:=hR.imp (λh=>h) (λh=>by simp only[PC.RO,ao] at h; exact h.2)
     split at h
     ·rename_i st1 eY
      cases n with
      | zero=>simp[yf] at eY
      | succ m =>
        refine up (branch (Nat.le_succ m) gC fc hx hy (hY.sub (λz hz=>by simp[zR,hz])) (hY.sub (λz hz=>by simp[zR,hz])) (nrB hZ) (Dp hQ) eY ?_)
        intro a' w' G' e he di cR hd
        simp only[Bw] at he
        subst he
        refine ih hr h di (hY.sub (λz hz=>by simp[zR,hz])) gw hQ ?_
        intro a2 w2 G2 e2 h1 h2 h3 h4
        exact hk a2 w2 G2 e2 h1 h2 (cR.trans h3) (DfR.trans cR hd h3 h4 (λhn=>by simpa only[PC.NR,ao] using hn))
     ·simp at h
     ·rename_i da fW
      cases n with
      | zero=>simp[yf] at h
      | succ m =>
        refine up (branch (Nat.le_succ m) gC fc hx hy (hY.sub (λz hz=>by simp[zR,hz])) (hY.sub (λz hz=>by simp[zR,hz])) (nrB hZ) (Dp hQ) h ?_)
        refine Kd (λe=>da st' (by rw[h,e])) (λkd caps v e=>fW kd caps v st' (by rw[h,e])) ?_
        intro a2 w2 G2 e2 h1 h2 h3 h4
        exact hk a2 w2 G2 e2 h1 h2 h3 (DfR.weak (ExtD.refl _ _) rfl h3 h4 (λhn=>by simp only[PC.NR,ao] at hn ⊢; exact hn.1))
   | bbranchSeq id ops d pos cc px x1 y1 r p1 p2 pr gC fc hx hy hr =>
     simp only[yf] at h
     refine FG ?_
     have hZ:rd'=none∨(PC.bbranch pos px p1 p2).RO=true:=hR.imp (λh=>h) (λh=>by simp only[PC.RO,ao] at h ⊢; exact h.1)
     have gw:rd'=none∨pr.RO=true:=hR.imp (λh=>h) (λh=>by simp only[PC.RO,ao] at h; exact h.2)
     split at h
     ·rename_i st1 eY
      cases n with
      | zero=>simp[yf] at eY
      | succ m =>
        refine up (bbranch (Nat.le_succ m) gC fc hx hy (hY.sub (λz hz=>by simp[zR,hz])) (hY.sub (λz hz=>by simp[zR,hz])) (nrBB hZ) (Dp hQ) eY ?_)
        intro a' w' G' e he di cR hd
        simp only[Bw] at he
        subst he
        refine ih hr h di (hY.sub (λz hz=>by simp[zR,hz])) gw hQ ?_
        intro a2 w2 G2 e2 h1 h2 h3 h4
        exact hk a2 w2 G2 e2 h1 h2 (cR.trans h3) (DfR.trans cR hd h3 h4 (λhn=>by simpa only[PC.NR,ao] using hn))
     ·simp at h
     ·rename_i da fW
      cases n with
      | zero=>simp[yf] at h
      | succ m =>
        refine up (bbranch (Nat.le_succ m) gC fc hx hy (hY.sub (λz hz=>by simp[zR,hz])) (hY.sub (λz hz=>by simp[zR,hz])) (nrBB hZ) (Dp hQ) h ?_)
        refine Kd (λe=>da st' (by rw[h,e])) (λkd caps v e=>fW kd caps v st' (by rw[h,e])) ?_
        intro a2 w2 G2 e2 h1 h2 h3 h4
        exact hk a2 w2 G2 e2 h1 h2 h3 (DfR.weak (ExtD.refl _ _) rfl h3 h4 (λhn=>by simp only[PC.NR,ao] at hn ⊢; exact hn.1))
   | seq x1 y1 p1 q1 hx hy =>
     simp only[yf] at h
     refine FG ?_
     have hZ:rd'=none∨p1.RO=true:=hR.imp (λh=>h) (λh=>by simp only[PC.RO,ao] at h; exact h.1)
     have gw:rd'=none∨q1.RO=true:=hR.imp (λh=>h) (λh=>by simp only[PC.RO,ao] at h; exact h.2)
     split at h
     ·rename_i st1 eY
      refine ih hx eY hb (hY.sub (λz hz=>by simp[zR,hz])) hZ (Dp hQ) ?_
      intro a' w' G' e he di cR hd
      simp only[Bw] at he
      subst he
      refine ih hy h di (hY.sub (λz hz=>by simp[zR,hz])) gw hQ ?_
      intro a2 w2 G2 e2 h1 h2 h3 h4
      exact hk a2 w2 G2 e2 h1 h2 (cR.trans h3) (DfR.trans cR hd h3 h4 (λhn=>by simpa only[PC.NR,ao] using hn))
     ·simp at h
     ·rename_i da fW
      refine ih hx h hb (hY.sub (λz hz=>by simp[zR,hz])) hZ (Dp hQ) ?_
      refine Kd (λe=>da st' (by rw[h,e])) (λkd caps v e=>fW kd caps v st' (by rw[h,e])) ?_
      intro a2 w2 G2 e2 h1 h2 h3 h4
      exact hk a2 w2 G2 e2 h1 h2 h3 (DfR.weak (ExtD.refl _ _) rfl h3 h4 (λhn=>by simp only[PC.NR,ao] at hn ⊢; exact hn.1))
   | cond cc px x1 y1 p1 q1 fc hx hy =>
     simp only[yf,Az,AL] at h
     split at h
     ·rename_i t ht
      have hf:=FI.begin (lm:=x7 vs []) hb (by intro j t hj; simp[x7] at hj) 0
      have fB:=(yH hE fc hf ht).1
      have fq:a.eval cc = .bool t:=by generalize a.eval cc=z at fB; cases fB; rfl
      have di:=FI.finish (nt:=nt) hf hb.size
      refine NG fq ?_
      have knext:∀(pq:PC),(pq=p1∨pq=q1)→KQ N vs nt pq x st' w G Q:=by
       intro pq qz a2 w2 G2 e2 h1 h2 h3 h4
       refine hk a2 w2 G2 e2 h1 h2 h3 (DfR.weak (ExtD.refl _ _) rfl h3 h4 ?_)
       intro hn
       simp only[PC.NR,ao] at hn
       rcases qz with rfl|rfl
       ·exact hn.1
       ·exact hn.2
      cases t with
      | true=>exact ih hx (by simpa using h) di (hY.sub (c':=x1) (λz hz=>by simp[zR,hz])) ((nrB hR).imp (λh=>h) (·.1)) hQ (knext _ (.inl rfl))
      | false=>exact ih hy (by simpa using h) di (hY.sub (c':=y1) (λz hz=>by simp[zR,hz])) ((nrB hR).imp (λh=>h) (·.2)) hQ (knext _ (.inr rfl))
     ·simp at h
   | block id x1 p1 hx =>
     simp only[yf] at h
     refine c4h ?_
     have hZ:rd'=none∨p1.RO=true:=hR
     have o7:LpOK E N nt fid x1:=hY
     split at h
     ·rename_i i st1 eY
      split at h
      ·rename_i hi
       subst hi
       simp only[aa,ac] at h
       obtain⟨rfl,rfl⟩:=h
       refine ih hx eY hb o7 hZ (NE hQ) ?_
       intro a' w' G' e he di cR hd
       simp only[Bw] at he
       subst he
       simp only[Exit.inBlock,if_true]
       exact hk a' w' G' .normal rfl di cR hd
      ·rename_i hi
       simp only[aa,ac] at h
       obtain⟨rfl,rfl⟩:=h
       refine ih hx eY hb o7 hZ (NE hQ) ?_
       intro a' w' G' e he di cR hd
       simp only[Bw] at he
       subst he
       simp only[Exit.inBlock,ae hi]
       exact hk a' w' G' _ rfl di cR hd
     ·simp at h
     ·rename_i da fW
      refine ih hx h hb o7 hZ (NE hQ) ?_
      intro a' w' G' e he di cR hd
      have:=hk a' w' G' e he di cR hd
      cases x with
      | normal=>simp only[Bw] at he; subst he; exact this
      | exit i=>exact absurd h (λe=>da _ _ e)
      | ret=>simp only[Bw] at he; subst he; exact this
      | boom v=>obtain⟨u,rfl,_⟩:=he; exact this
      | after kd caps v=>exact absurd h (λe=>fW _ _ _ _ e)
   | loop x1 p1 hx =>
     refine b4w (n+1) ?_
     have hZ:rd'=none∨p1.RO=true:=hR
     have o7:LpOK E N nt fid x1:=hY
     have key:∀(m:Nat),m≤n+1→∀{st:St} {w:World} {G:GS} {a:Act},yf L m (.loop p1) st=some (x,st')→BI N w G st a vs nt→KQ N vs nt (.loop p1) x st' w G Q→Gh rd' fid P x1 Q m a w:=by
      intro m
      induction m with
      | zero=>intro _ st w G a h; simp[yf] at h
      | succ m ihm =>
        intro hm st w G a h hb hk
        rw[b8G]
        have ih' := @Es hF hE hP dL dl fid rd' m (λm' kC=>dh m' (by omega))
        simp only[yf] at h
        split at h
        ·rename_i st1 eY
         refine ih' hx eY hb o7 hZ (Dp hQ) ?_
         intro a' w' G' e he di cR hd
         simp only[Bw] at he
         subst he
         refine ihm (by omega) h di ?_
         intro a2 w2 G2 e2 h1 h2 h3 h4
         exact hk a2 w2 G2 e2 h1 h2 (cR.trans h3) (DfR.trans cR hd h3 h4 (λhn=>⟨hn,hn⟩))
        ·simp at h
        ·rename_i da fW
         refine ih' hx h hb o7 hZ (Dp hQ) ?_
         refine Kd (λe=>da st' (by rw[h,e])) (λkd caps v e=>fW kd caps v st' (by rw[h,e])) ?_
         intro a2 w2 G2 e2 h1 h2 h3 h4
         exact hk a2 w2 G2 e2 h1 h2 h3 h4
     exact key (n+1) (an _) h hb hk
   | rangeF g ps as body px kb vars caps hg hl hv =>
     simp only[yf] at h
     split at h
     ·rename_i k first captured cs ml kY
      split at h
      ·simp at h
      ·rename_i kA
       have ef:rd'=none:=by rcases hR with h|h; exact h; simp[PC.RO] at h
       subst ef
       have tq:x7 vs []=(λ_=>none):=by funext j; simp[x7]
       have hf:FI N w G st a vs (x7 vs []):=by rw[tq]; exact hb.fi
       have vj:=(yH hE hg hf ml).1
       obtain⟨dN,pd⟩:=Ck hE hf hv kY
       have ki:N.yl k=none:=cT.yl k (by simpa using kA)
       generalize xe:a.eval g=gv at vj
       cases vj with
       | yield _ m l y tmps caps' hy _ _ _ _ _=>rw[ki] at hy; simp at hy
       | func _ fs cs' _ _ hy e1 e2 nW dS =>
         have eS:=run_enterLoop_outer (P:=P) (w:=w) fid a.tmps ps as body
         have x1:=c3w hb.fi (.deferred (some []))
         have gD:(w.alloc (.deferred (some []))).heap.size=w.heap.size+1:=by simp
         have x2:=c8A x1.2 (ob := .loop true) (mob := .loop { state := .ready,pending:=none,fn:=fid,tmps:=a.tmps,params:=ps,assign:=as,body:=body,defers:=w.heap.size }) (by
          rintro G' rfl _
          refine⟨?_,_,C3,rfl,by simp⟩
          intro o gx
          have:=x1.2.fixlt _ _ gx
          omega)
         rw[gD] at x2
         generalize gZ:(w.alloc (.deferred (some []))).alloc (.loop { state := .ready,pending:=none,fn:=fid,tmps:=a.tmps,params:=ps,assign:=as,body:=body,defers:=w.heap.size })=w1 at eS x2
         have d8:w1.heap[w.heap.size+1]? = some (.loop { state := .ready,pending:=none,fn:=fid,tmps:=a.tmps,params:=ps,assign:=as,body:=body,defers:=w.heap.size }):=by
          rw[← gZ,← gD]; exact C3
         have mr:w1.heap[w.heap.size]? = some (.deferred (some [])):=by
          rw[← gZ,Ax (by rw[gD]; omega)]; exact C3
         have eY:w1.heap.size=w.heap.size+2:=by rw[← gZ]; simp
         have dZ:Ext w G w1 (G.more (w.heap.size+1) st.heap.length):=x1.1.trans x2.1
         have f2:=x2.2
         generalize vk:G.more (w.heap.size+1) st.heap.length=G1 at dZ f2
         have ei:G1.heap st.heap.length=some (w.heap.size+1):=by rw[← vk]; simp[GS.more]
         have qA:G1.ow w.heap.size=none:=by
          rw[← vk]
          simp only[GS.more]
          rw[ae (by omega)]
          cases hx:G.ow w.heap.size with
          | none=>rfl
          | some kk=>have:=hb.fi.owlt _ _ hx; omega
         have tr:VR N w1 G1.fix G1.heap (.func (.yield (w.heap.size+1)) #[] #[]) (.func kb (.ptr st.heap.length 0::cs) []):=by
          refine .yield kb st.heap.length (w.heap.size+1) ⟨fid,ps,as,body,vars,nt⟩ a.tmps cs (hY ps kb vars hl (ps,as,body) (by simp[zR]) rfl) ei (by simp[Bj,d8]) (by simpa using dN.symm) hb.size ?_
          intro i t p ht hp
          have:=(pd i (.tmp t) p (by simpa using ht) hp).1
          exact VR.ext (by simpa[Act.eval] using this) dZ
         have dQ:(resolve a.eval (rangeCall g (w.heap.size+1)) 0).run P w1 = .ok { target := .fn (.func (N.fn k)) cs',args:=fs ++ #[.func (.yield (w.heap.size+1)) #[] #[]] } w1:=by
          have oa:a.eval (.const (.func (.yield (w.heap.size+1)) #[] #[])) = .func (.yield (w.heap.size+1)) #[] #[]:=rfl
          simp[resolve,rangeCall,xe,Deferred.ofValue,oa]
         obtain⟨pf,hL⟩:∃f,L k=some f:=by
          split at h
          ·exact Gg (by assumption)
          ·exact Gg (by assumption)
          ·simp at h
         have j7:(invoke (.fn (.func (N.fn k)) cs') (fs ++ #[.func (.yield (w.heap.size+1)) #[] #[]])).run P w1 = .ok (.enter (N.fn k) (fs ++ #[.func (.yield (w.heap.size+1)) #[] #[]]++cs')) w1:=by
          simp only[invoke]
          exact C4 hF hL _ w1
         have ep:∀(i:Nat) (v:Value) (p:PV),(fs ++ #[.func (.yield (w.heap.size+1)) #[] #[]]++cs')[i]? = some v→(first ++ .func kb (.ptr st.heap.length 0::cs) []::captured)[i]? = some p→VR N w1 G1.fix G1.heap v p:=by
          intro i v p ev hp
          by_cases hi:i<fs.size
          ·rw[Array.append_assoc,bY hi] at ev
           rw[al (by omega)] at hp
           exact(nW i v p ev hp).ext dZ
          ·rw[Array.append_assoc,cP (by omega)] at ev
           rw[aq (by omega),← e1] at hp
           cases hn:i - fs.size with
           | zero =>
             rw[hn] at ev hp
             rw[bY (by simp)] at ev
             simp at ev hp
             subst ev hp
             exact tr
           | succ m =>
             rw[hn] at ev hp
             rw[cP (by simp)] at ev
             simp at ev hp
             exact(dS m v p ev hp).ext dZ
         have eG:(fs ++ #[Value.func (.yield (w.heap.size+1)) #[] #[]]++cs').size=(first++PV.func kb (.ptr st.heap.length 0::cs) []::captured).length:=by simp[e1,e2]; omega
         have marks:∀{w' w4:World} {G':GS} {e5:Ext w1 G1 w' G'} {G4:GS},w4.heap[w.heap.size]? = w'.heap[w.heap.size]?→G4.ow=G'.ow→Marks w w4 G4 [{ target := .collected w.heap.size,args := #[] }]:=by
          intro w' w4 G' e5 G4 xf xg
          refine⟨[w.heap.size],rfl,by simp,?_⟩
          intro b hb
          simp only[aP] at hb
          subst hb
          refine⟨an _,?_,?_⟩
          ·rw[xf,e5.same _ (by omega) qA]; exact mr
          ·rw[xg]
           cases hx:G'.ow w.heap.size with
           | none=>rfl
           | some kk =>
             rcases e5.own w.heap.size (by rw[hx]; simp) with h|h
             ·omega
             ·exact absurd qA h
         have fin:∀{x':PExit} {j:Option Code} {ob:PObj} {u:PV} {h':List PObj},z6 (yf L n) L k (first ++ .func kb (.ptr st.heap.length 0::cs) []::captured) (st.heap++[.loop true])=some (.val u,h') →
           KQ N vs nt (.rangeF px kb caps) x' { st with heap:=h'.set st.heap.length .gone } w G Q→((j=none∧x' = .normal)∨(j=some .ret∧x' = .ret)∨∃id,j=some (.exit id)∧x' = .exit id) →
           h'[st.heap.length]? = some ob→ob≠.gone→(∀(w':World) (G':GS) (b:Nat),ObjR N w' G' st.heap.length b ob→(∀o,¬G'.fix b o)∧∃r:Go.Loop,w'.heap[b]? = some (.loop r)∧r.pending=j∧r.state≠.busy) →
           wpN none fid P (.rangeFunc g ps as body) Q a w:=by
          intro x' j ob u h' dh hk hj jv nO dO
          refine S4 eS dQ j7 ((cT.out k _ _ _ _ dh ki w1 G1.callee _ (Gi f2) eG ep).mono ?_)
          rintro e w' ⟨G2,⟨v,rfl,cZ⟩,he,dE⟩
          obtain⟨G',cR,dt,g1,g2⟩:=Ke f2 he dE
          rcases dt.heap.1 st.heap.length _ jv with vl|⟨b,k1,k2,k3⟩
          ·exact absurd vl nO
          obtain⟨kf,r,k3,k4,k5⟩:=dO _ _ _ k3
          have:b=w.heap.size+1:=by have:=cR.heap _ _ ei; rw[k1] at this; simpa using this
          subst this
          have fN:=run_endLoop (P:=P) k3 k5
          have fN:=fN.trans (aI (λz=>Result.ok z _) k4)
          obtain⟨e6,xh⟩:=S5 (ob' := .gone) (mob := .loop { r with state := .exhausted }) dt k1 k2 kf (by simp[World.shape?,k3]) (by
           intro s hs
           have cV:w.heap.size+1<w'.heap.size:=(aZ.1 k3).1
           simp only[Bj,k3] at hs
           simpa[Bj,bx,cV] using hs) (.inl rfl)
          refine⟨_,_,fN,?_⟩
          have dJ:=(dZ.trans cR).trans e6
          have tw:=FI.setDf xh ([{ target := .collected w.heap.size,args := #[] }]++a.defers)
          have last:∀e2,Bw N _ _ x' e2→Q e2 _ _:=λe2 fp=>hk { a with defers:=[{ target := .collected w.heap.size,args := #[] }]++a.defers } (w'.putObj (w.heap.size+1) (.loop { r with state := .exhausted })) { G' with df:=[{ target := .collected w.heap.size,args := #[] }]++a.defers } e2 fp ⟨tw,hb.size⟩ (Ext.setDf dJ _) (by
           have hd:∃ms,([{ target := .collected w.heap.size,args := #[] }]++a.defers:List Deferred)=ms++G.df∧Marks w (w'.putObj (w.heap.size+1) (.loop { r with state := .exhausted })) { G' with df:=[{ target := .collected w.heap.size,args := #[] }]++a.defers } ms∧((PC.rangeF px kb caps).NR=true→ms=[]):=
            ⟨[{ target := .collected w.heap.size,args := #[] }],by simp[hb.fi.defers],marks (e5:=cR) (w4:=w'.putObj (w.heap.size+1) (.loop { r with state := .exhausted })) (G4:={ G' with df:=[{ target := .collected w.heap.size,args := #[] }]++a.defers }) (by simp[World.putObj,bx]) rfl,by simp[PC.NR]⟩
           rcases hj with⟨_,rfl⟩|⟨_,rfl⟩|⟨id,_,rfl⟩<;>exact hd)
          rcases hj with⟨rfl,rfl⟩|⟨rfl,rfl⟩|⟨id,rfl,rfl⟩
          ·exact last _ rfl
          ·exact S3 (last _ rfl)
          ·exact S2 (last _ rfl)
         split at h
         ·rename_i u h' dh
          split at h
          ·rename_i jv
           simp only[aa,ac] at h
           obtain⟨rfl,rfl⟩:=h
           exact fin dh hk (.inl ⟨rfl,rfl⟩) jv (by simp) (λw' G' b ⟨kf,r,k3,k4,k5⟩=>⟨kf,r,k3,k4,by rw[k5]; simp⟩)
          ·rename_i id jv
           simp only[aa,ac] at h
           obtain⟨rfl,rfl⟩:=h
           exact fin dh hk (.inr (.inr ⟨id,rfl,rfl⟩)) jv (by simp) (λw' G' b ⟨kf,r,k3,k4,k5⟩=>⟨kf,r,k3,k4,by rw[k5]; simp⟩)
          ·rename_i jv
           simp only[aa,ac] at h
           obtain⟨rfl,rfl⟩:=h
           exact fin dh hk (.inr (.inl ⟨rfl,rfl⟩)) jv (by simp) (λw' G' b ⟨kf,r,k3,k4,k5⟩=>⟨kf,r,k3,k4,by rw[k5]; simp⟩)
          ·simp at h
         ·rename_i v h' dh
          simp only[aa,ac] at h
          obtain⟨rfl,rfl⟩:=h
          refine S4 eS dQ j7 ((cT.out k _ _ _ _ dh ki w1 G1.callee _ (Gi f2) eG ep).mono ?_)
          rintro e w' ⟨G2,⟨u,rfl,cZ⟩,he,dE⟩
          obtain⟨G',cR,dt,g1,g2⟩:=Ke f2 he dE
          have dJ:=dZ.trans cR
          have tw:=FI.setDf dt ([{ target := .collected w.heap.size,args := #[] }]++a.defers)
          refine hk _ _ _ _ ⟨u,rfl,by rw[← g1,← g2] at cZ; exact cZ⟩ ⟨tw,hb.size⟩ (Ext.setDf dJ _) ⟨[{ target := .collected w.heap.size,args := #[] }],by simp[hb.fi.defers],marks (e5:=cR) rfl rfl,by simp[PC.NR]⟩
         ·simp at h
     ·simp at h
   | guarded id ops kd caps y q hd hy =>
     simp only[yf] at h
     split at h
     ·simp at h
     ·rename_i kA
      have mQ:q.NR=true:=by simpa using kA
      have ef:rd'=none:=by rcases hR with h|h; exact h; simp[PC.RO] at h
      subst ef
      split at h
      ·rename_i cs kY
       unfold Nx at hd
       split at hd
       ·rename_i d f first pcaps ty1 ps1 af1 d' args ts2 ty2 ps2 af2 qB
        split at hd
        ·rename_i kz
         obtain⟨rfl,qy,dm,tz,tB⟩:=kz
         simp only[aj,ab,ac] at hd
         obtain⟨k0,lI,pcs,tC,rfl,rfl⟩:=hd
         have tq:x7 vs []=(λ_=>none):=by funext j; simp[x7]
         have hf:FI N w G st a vs (x7 vs []):=by rw[tq]; exact hb.fi
         obtain⟨dN,pd⟩:=Ck hE hf tC kY
         obtain⟨ops⟩:=ops
         simp only at qB
         subst qB
         have qC:first = #[]:=by cases first; simpa using tz
         have qD:args = #[]:=by cases args; simpa using tB
         subst qC qD
         have fK:=hE.fn _ _ lI
         refine FG (E6 (n:=0) (wpIn_region ?_))
         have j8:List.range (Array.mk [({ dst:=some d,op := .makeFunc (.func f) #[] pcaps,type:=ty1,pos:=ps1,after:=af1,guard:=none }:Oper),{ dst:=none,op := .defer { callee := .value (.tmp d),args := #[],argTypes:=ts2 },type:=ty2,pos:=ps2,after:=af2,guard:=none }]).size=[0,1]:=rfl
         rw[j8,wpOpsIn_cons]
         unfold wpOpIn
         simp only[bZ,List.getElem?_cons_zero,Region.wanted,if_true]
         refine⟨λ_ _=>Cj _,?_⟩
         rw[show (W none).round=none from rfl,Oper.semAt_none]
         have kZ:(execOp a.eval ({ dst:=some d,op := .makeFunc (.func f) #[] pcaps,type:=ty1,pos:=ps1,after:=af1,guard:=none }:Oper)).run P w = .ok (.value (.func (.func f) #[] (pcaps.map a.eval))) w:=by
          simp[execOp,Instr.makeFunc]
         rw[kZ,Oper.uponIn_value]
         rw[wpOpsIn_cons]
         unfold wpOpIn
         simp only[bZ,cz,List.getElem?_cons_zero,Region.wanted,if_true]
         refine⟨λ_ _=>Cj _,?_⟩
         rw[show (W none).round=none from rfl,Oper.semAt_none]
         have fB:(a.put (some d) (.func (.func f) #[] (pcaps.map a.eval))).eval (.tmp d) = .func (.func f) #[] (pcaps.map a.eval):=by
          have:d<a.tmps.size:=aT dm hb.size
          simp[Act.eval,Act.put,aV,bx,this]
         have kX:(execOp (a.put (some d) (.func (.func f) #[] (pcaps.map a.eval))).eval ({ dst:=none,op := .defer { callee := .value (.tmp d),args := #[],argTypes:=ts2 },type:=ty2,pos:=ps2,after:=af2,guard:=none }:Oper)).run P w =
           .ok (.defer { target := .fn (.func f) (pcaps.map a.eval),args := #[] }) w:=by
          simp[execOp,resolve,fB,Deferred.ofValue]
         rw[kX,Oper.uponIn_defer]
         simp only[wpOpsIn]
         have b1:=hb.putOther qy (.func (.func f) #[] (pcaps.map a.eval))
         generalize kz:({ target := .fn (.func f) (pcaps.map a.eval),args := #[] }:Deferred)=dd
         have b2:BI N w { G with df:=dd::a.defers } st { a.put (some d) (.func (.func f) #[] (pcaps.map a.eval)) with defers:=dd::a.defers } vs nt:=⟨FI.setDf b1.fi _,b1.size⟩
         have jw:∀(w':World) (G':GS),ExtD w { G with df:=dd::a.defers } w' G'→G'.df=dd::a.defers→Clo N w' G' k0 cs:=by
          intro w' G' cR fj
          refine⟨dd,a.defers,pcaps.map a.eval,fj,by rw[← kz,fK],by simpa using dN,?_⟩
          intro i v p hv hp
          simp only[cA,ab] at hv
          obtain⟨x,hx,rfl⟩:=hv
          have tD:Ext w { G with df:=G'.df } w' G':=cR
          exact VR.mono (pd i x p (by simpa using hx) hp).1 tD.fix tD.heap tD.shape
         have run:∀(x0:PExit) (st1:St),yf L n q st=some (x0,st1)→x0.plain=true→KQ N vs nt q x0 st1 w { G with df:=dd::a.defers } Q→wpN none fid P y Q { a.put (some d) (.func (.func f) #[] (pcaps.map a.eval)) with defers:=dd::a.defers } w:=by
          intro x0 st1 gy _ pL
          exact ih hy gy b2 (hY.sub (λz hz=>by simp[zR,hz])) (.inl rfl) hQ pL
         have dfs:∀{x0:PExit} {w':World} {G':GS},x0.plain=true→DfR q x0 w { G with df:=dd::a.defers } w' G'→G'.df=dd::a.defers:=by
          intro x0 w' G' gy hd
          have key:(∃ms,G'.df=ms++(dd::a.defers)∧Marks w w' G' ms∧(q.NR=true→ms=[]))→G'.df=dd::a.defers:=by
           rintro⟨ms,h1,_,h3⟩
           rw[h1,h3 mQ]; rfl
          cases x0 with
          | after _ _ _=>simp[PExit.plain] at gy
          | normal=>exact key hd
          | exit _=>exact key hd
          | ret=>exact key hd
          | boom _=>exact key hd
         have tE:∀{w':World} {G':GS} {v:Option PV},G'.df=dd::a.defers→DfR (.guarded k0 pcs q) (.after k0 cs v) w G w' G':=λh _=>⟨dd,by rw[h,hb.fi.defers]⟩
         split at h
         ·rename_i st1 gy
          simp only[aa,ac] at h
          obtain⟨rfl,rfl⟩:=h
          refine run .normal _ gy rfl ?_
          intro a' w' G' e he di cR fj
          have iI:=dfs rfl fj
          exact hk a' w' G' e ⟨.inl he,jw w' G' cR iI⟩ di cR (tE iI)
         ·rename_i st1 gy
          simp only[aa,ac] at h
          obtain⟨rfl,rfl⟩:=h
          refine run .ret _ gy rfl ?_
          intro a' w' G' e he di cR fj
          have iI:=dfs rfl fj
          exact hk a' w' G' e ⟨.inr he,jw w' G' cR iI⟩ di cR (tE iI)
         ·rename_i v st1 gy
          simp only[aa,ac] at h
          obtain⟨rfl,rfl⟩:=h
          refine run (.boom v) _ gy rfl ?_
          intro a' w' G' e he di cR fj
          have iI:=dfs rfl fj
          exact hk a' w' G' e ⟨he,jw w' G' cR iI⟩ di cR (tE iI)
         ·simp at h
        ·simp at hd
       ·simp at hd
      ·simp at h
end
end PI
set_option linter.unusedSimpArgs false
set_option linter.unusedVariables false
namespace PI
def Ds (cf cf':yg):Prop:=∀k args h r,cf k args h=some r→cf' k args h=some r
theorem c3S {cf cf':yg} (hc:Ds cf cf') {o:HOp} {st:St} {r} (h:x9 cf o st=some r):x9 cf' o st=some r:=by
 cases o<;>try exact h
 case call k args=>
  simp only[x9,aj,ab] at h ⊢
  obtain⟨vs,h1,q,h2,h3⟩:=h
  exact⟨vs,h1,q,hc _ _ _ _ h2,h3⟩
 case zcall k args=>
  simp only[x9,aj] at h ⊢
  obtain⟨vs,h1,h⟩:=h
  refine⟨vs,h1,?_⟩
  split at h
  ·rename_i hw
   rw[ai hw]
   simp only[aj] at h ⊢
   obtain⟨q,h4,h5⟩:=h
   exact⟨q,hc _ _ _ _ h4,h5⟩
  ·simp at h
 case rcall k args=>
  simp only[x9,aj] at h ⊢
  obtain⟨vs,h1,q,h2,h3⟩:=h
  exact⟨vs,h1,q,hc _ _ _ _ h2,h3⟩
 case icall tab x args=>
  simp only[x9,aj,ab] at h ⊢
  obtain⟨m,h0,vs,h1,q,h2,h3⟩:=h
  exact⟨m,h0,vs,h1,q,hc _ _ _ _ h2,h3⟩
 case callv x args=>
  simp only[x9] at h ⊢
  split at h
  ·simp only[ab] at h ⊢
   obtain⟨q,h2,h3⟩:=h
   exact⟨q,hc _ _ _ _ h2,h3⟩
  ·simp at h
theorem T6 {cf cf':yg} (hc:Ds cf cf') {o:POp} {st:St} {r} (h:opv cf o st=some r):opv cf' o st=some r:=by
 cases o<;>try exact h
 case h o=>exact c3S hc h
 case pcall k args=>
  simp only[opv] at h ⊢
  split at h
  ·split at h
   ·rename_i hr
    simp only[hr,if_true]
    split at h
    ·rename_i hx; rw[hc _ _ _ _ hx]; exact h
    ·simp at h
   ·simp at h
  ·simp at h
 case pzcall k args=>
  simp only[opv] at h ⊢
  split at h
  ·split at h
   ·rename_i hr
    simp only[hr,if_true]
    split at h
    ·rename_i hx; rw[hc _ _ _ _ hx]; exact h
    ·simp at h
   ·simp at h
  ·simp at h
 case pcallx k args own=>
  simp only[opv] at h ⊢
  cases own with
  | none =>
    simp only at h ⊢
    split at h
    ·split at h
     ·rename_i hr
      simp only[hr,if_true]
      split at h
      ·rename_i hx; rw[hc _ _ _ _ hx]; exact h
      ·simp at h
     ·simp at h
    ·simp at h
  | some i =>
    simp only at h ⊢
    split at h
    ·split at h
     ·rename_i hr
      rw[ai hr]
      split at h
      ·rename_i hx; rw[hc _ _ _ _ hx]; exact h
      ·simp at h
     ·simp at h
    ·simp at h
 case callv x args=>
  simp only[opv] at h ⊢
  split at h
  ·split at h
   ·rename_i hr
    simp only[hr,if_true]
    split at h
    ·rename_i hx; rw[hc _ _ _ _ hx]; exact h
    ·simp at h
   ·simp at h
  ·simp at h
theorem Oq {cf cf':yg} (hc:Ds cf cf') {j:Nat} {o:PO} {st:St} {r} (h:zf cf j o st=some r):zf cf' j o st=some r:=by
 simp only[zf] at h ⊢
 split at h
 ·simp only[ab] at h ⊢
  obtain⟨a,h1,h2⟩:=h
  exact⟨a,T6 hc h1,h2⟩
 ·split at h
  ·split at h
   ·rename_i hb
    simp only[ai hb,ab] at h ⊢
    obtain⟨a,h1,h2⟩:=h
    exact⟨a,T6 hc h1,h2⟩
   ·rename_i hb
    rw[ae hb]; exact h
  ·exact h
  ·simp at h
theorem Ks {cf cf':yg} (hc:Ds cf cf'):∀{os:List PO} {j:Nat} {st:St} {r},AL cf j os st=some r→AL cf' j os st=some r
 | [],_,_,_,h=>h
 | o :: os, j, st, r, h => by
   simp only[AL,aj] at h ⊢
   obtain⟨a,h1,h2⟩:=h
   exact⟨a,Oq hc h1,Ks hc h2⟩
theorem GA {cf cf':yg} (hc:Ds cf cf') {os:List PO} {st:St} {r} (h:Az cf os st=some r):Az cf' os st=some r:=Ks hc h
def GB (ob ob':zT):Prop:=∀k args h r,ob k args h=some r→ob' k args h=some r
theorem b6l {ex ex':PC→St→Option (PExit×St)} (he:∀c st r,ex c st=some r→ex' c st=some r) {nv:Nat} {a b:PC} {args:List PV} {h:List PObj} {r} (hr:Dy ex nv a b args h=some r):Dy ex' nv a b args h=some r:=by
 unfold Dy at hr ⊢
 split at hr
 ·split at hr
  ·rename_i h1 h2
   simp only[h1,he _ _ _ h2]
   split at hr
   all_goals first
    | (rename_i h3 h4; simp only[h3,he _ _ _ h4]; exact hr)
    | simp at hr
  ·simp at hr
 ·simp at hr
theorem T7 {ex ex':PC→St→Option (PExit×St)} (he:∀c st r,ex c st=some r→ex' c st=some r) {dfr} {f:PFunc} {args:List PV} {h:List PObj} {r} (hr:Bn ex dfr f args h=some r):Bn ex' dfr f args h=some r:=by
 unfold Bn at hr ⊢
 split at hr
 ·exact b6l he hr
 ·split at hr
  ·rename_i hx; rw[he _ _ _ hx]; exact hr
  ·rename_i hx; rw[he _ _ _ hx]; exact hr
  ·rename_i hx; rw[he _ _ _ hx]; exact hr
  ·rename_i hx; rw[he _ _ _ hx]; exact hr
  ·simp at hr
theorem IC {x:Option (Out×List PObj)} {r}:IN x=some r↔x=some (.val r.1,r.2):=by
 obtain⟨v,h⟩:=r
 unfold IN
 split
 ·simp
 ·rename_i da
  constructor
  ·intro e; cases e
  ·intro e; exact absurd e (da v h)
theorem ID {ex ex':PC→St→Option (PExit×St)} (he:∀c st r,ex c st=some r→ex' c st=some r) {dfr} {f:PFunc} {args:List PV} {h:List PObj} {r} (hr:BM ex dfr f args h=some r):BM ex' dfr f args h=some r:=by
 simp only[BM] at hr ⊢
 split at hr
 ·simp at hr
 ·rename_i hn
  rw[ae hn]
  rw[IC] at hr ⊢
  exact T7 he hr
theorem Dq {a b:Option (PV×List PObj)} {r}:EC a b=some r↔a=some r∧b=some r:=by
 unfold EC
 constructor
 ·intro h
  split at h
  ·rename_i he; exact⟨h,he▸h⟩
  ·simp at h
 ·rintro⟨rfl,rfl⟩; simp
theorem IE {ex ex':PC→St→Option (PExit×St)} (he:∀c st r,ex c st=some r→ex' c st=some r) {f:PFunc} {o:Option Nat} {args:List PV} {h:List PObj} {r} (hr:Bo ex f o args h=some r):Bo ex' f o args h=some r:=by
 unfold Bo at hr ⊢
 split at hr
 ·simp at hr
 ·rename_i hn
  rw[ae hn]
  split at hr
  ·rename_i hx; rw[he _ _ _ hx]; exact hr
  ·rename_i hx; rw[he _ _ _ hx]; exact hr
  ·simp at hr
theorem b7Y {ex ex':PC→St→Option (PExit×St)} (he:∀c st r,ex c st=some r→ex' c st=some r) {f:PFunc} {args:List PV} {h:List PObj} {r} (hr:CJ ex f args h=some r):CJ ex' f args h=some r:=by
 unfold CJ at hr ⊢
 split at hr
 ·split at hr
  ·rename_i hd
   try simp only[hd]
   split at hr
   ·rename_i hl
    rw[ai hl]
    split at hr
    ·rename_i hs
     rw[Dq] at hr
     rw[ai hs,Dq]
     exact⟨IE he hr.1,IE he hr.2⟩
    ·rename_i hs
     rw[ae hs]
     exact IE he hr
   ·simp at hr
  ·simp at hr
 ·simp at hr
theorem Ot {ex ex':PC→St→Option (PExit×St)} (he:∀c st r,ex c st=some r→ex' c st=some r) (L:Nat→Option PFunc):Ds (zI ex L) (zI ex' L):=by
 intro k args h r hr
 simp only[zI] at hr ⊢
 split at hr
 ·simp at hr
 ·split at hr
  ·rename_i hl
   simp only[ai hl]
   split at hr
   ·exact hr
   split at hr
   ·rename_i hs
    rw[Dq] at hr
    rw[ai hs,Dq]
    exact⟨ID he hr.1,ID he hr.2⟩
   ·rename_i hs
    rw[ae hs]
    exact ID he hr
  ·rename_i hl
   rw[ae hl]
   exact b7Y he hr
theorem Ou {ex ex':PC→St→Option (PExit×St)} (he:∀c st r,ex c st=some r→ex' c st=some r) (L:Nat→Option PFunc):GB (z6 ex L) (z6 ex' L):=by
 intro k args h r hr
 simp only[z6] at hr ⊢
 split at hr
 ·simp at hr
 ·split at hr
  ·rename_i hl
   simp only[ai hl]
   split at hr
   ·exact hr
   ·exact T7 he hr
  ·simp at hr
theorem Ov {cf cf':yg} {ob ob':zT} (hc:Ds cf cf') (hb:GB ob ob') {j:Nat} {o:PO} {st:St} {r} (h:AA cf ob j o st=some r):AA cf' ob' j o st=some r:=by
 unfold AA at h ⊢
 split at h
 ·split at h
  ·rename_i vs iC
   split at h
   ·rename_i h1; simp only[iC,hb _ _ _ _ h1]; exact h
   ·rename_i h1; simp only[iC,hb _ _ _ _ h1]; exact h
   ·simp at h
  ·simp at h
 ·split at h
  ·rename_i hf vs
   split at h
   ·rename_i h1; simp only[hf,vs,hb _ _ _ _ h1]; exact h
   ·rename_i h1; simp only[hf,vs,hb _ _ _ _ h1]; exact h
   ·simp at h
  ·simp at h
 ·simp at h
 ·simp at h
 ·simp only[ab] at h ⊢
  obtain⟨a,h1,h2⟩:=h
  exact⟨a,Oq hc h1,h2⟩
theorem Dt {cf cf':yg} {ob ob':zT} (hc:Ds cf cf') (hb:GB ob ob'):∀{os:List PO} {j:Nat} {st:St} {r},zL cf ob j os st=some r→zL cf' ob' j os st=some r
 | [],_,_,_,h=>h
 | o :: os, j, st, r, h => by
   simp only[zL] at h ⊢
   split at h
   ·rename_i h1
    rw[Ov hc hb h1]
    exact Dt hc hb h
   ·rename_i da
    rw[Ov hc hb h]
    split
    ·rename_i h1
     simp only[aa] at h1
     subst h1
     exact absurd h (da _)
    ·rfl
section
variable {L:Nat→Option PFunc}
theorem BS:∀(n:Nat) (c:PC) (st:St) (r),yf L n c st=some r→yf L (n+1) c st=some r
 | 0,c,st,r,h=>by simp[yf] at h
 | n + 1, c, st, r, h => by
   have dK:Ds (zI (yf L n) L) (zI (yf L (n+1)) L):=Ot (BS n) L
   have dO:GB (z6 (yf L n) L) (z6 (yf L (n+1)) L):=Ou (BS n) L
   rw[yf.eq_def] at h ⊢
   cases c with
   | skip=>exact h
   | exit id=>exact h
   | ret=>exact h
   | region ops =>
     simp only[ab] at h ⊢
     obtain⟨a,h1,h2⟩:=h
     exact⟨a,GA dK h1,h2⟩
   | branch ops x a b =>
     try simp only at h
     try simp only
     split at h
     ·rename_i h1
      rw[GA dK h1]
      simp only
      split at h
      ·rename_i h2
       exact BS n _ _ _ h
      ·simp at h
     ·simp at h
   | seq a b =>
     try simp only at h
     try simp only
     split at h
     ·rename_i h1
      rw[BS n _ _ _ h1]
      exact BS n _ _ _ h
     ·simp at h
     ·rename_i da fW
      rw[BS n _ _ _ h]
      split
      ·rename_i h1; cases h1; exact absurd h (da _)
      ·rename_i h1; cases h1; exact absurd h (fW _ _ _ _)
      ·rfl
   | block id c =>
     try simp only at h
     try simp only
     split at h
     ·rename_i h1
      rw[BS n _ _ _ h1]; exact h
     ·simp at h
     ·rename_i da fW
      rw[BS n _ _ _ h]
      split
      ·rename_i h1; cases h1; exact absurd h (da _ _)
      ·rename_i h1; cases h1; exact absurd h (fW _ _ _ _)
      ·rfl
   | loop c =>
     try simp only at h
     try simp only
     split at h
     ·rename_i h1
      rw[BS n _ _ _ h1]
      exact BS n _ _ _ h
     ·simp at h
     ·rename_i da fW
      rw[BS n _ _ _ h]
      split
      ·rename_i h1; cases h1; exact absurd h (da _)
      ·rename_i h1; cases h1; exact absurd h (fW _ _ _ _)
      ·rfl
   | bregion ops =>
     try simp only at h
     try simp only
     split at h
     ·rename_i h1; rw[Dt dK dO h1]; exact h
     ·rename_i h1; rw[Dt dK dO h1]; exact h
     ·simp at h
   | bbranch ops x a b =>
     try simp only at h
     try simp only
     split at h
     ·rename_i h1
      rw[Dt dK dO h1]
      simp only
      split at h
      ·exact BS n _ _ _ h
      ·simp at h
     ·rename_i h1; rw[Dt dK dO h1]; exact h
     ·simp at h
   | raise ops t x =>
     try simp only at h
     try simp only
     split at h
     ·rename_i h1; rw[GA dK h1]; exact h
     ·simp at h
   | rangeF x kb caps =>
     try simp only at h
     try simp only
     split at h
     ·rename_i hf dS
      try simp only[hf,dS]
      split at h
      ·simp at h
      ·rename_i hn
       rw[ae hn]
       split at h
       ·rename_i h1; rw[dO _ _ _ _ h1]; exact h
       ·rename_i h1; rw[dO _ _ _ _ h1]; exact h
       ·simp at h
     ·simp at h
   | round a b=>simp at h
   | guarded kd caps c =>
     try simp only at h
     try simp only
     split at h
     ·simp at h
     ·rename_i hn
      rw[ae hn]
      split at h
      ·rename_i dS
       split at h
       ·rename_i h1; rw[BS n _ _ _ h1]; exact h
       ·rename_i h1; rw[BS n _ _ _ h1]; exact h
       ·rename_i h1; rw[BS n _ _ _ h1]; exact h
       ·simp at h
      ·simp at h
theorem C7 {n m:Nat} (jl:n≤m) {c:PC} {st:St} {r} (h:yf L n c st=some r):yf L m c st=some r:=by
 induction jl with
 | refl=>exact h
 | step _ ih=>exact BS _ _ _ _ ih
theorem Fe {n m:Nat} (jl:n≤m):Ds (call L n) (call L m):=Ot (λ_ _ _ h=>C7 jl h) L
open Classical in
noncomputable def evL (L:Nat→Option PFunc) (c:PC) (st:St):Option (PExit×St):=
 if h:∃r,∃n,yf L n c st=some r then some h.choose else none
open Classical in
noncomputable def x8 (L:Nat→Option PFunc):yg:=λk args hp=>
 if h:∃r,∃n,call L n k args hp=some r then some h.choose else none
theorem zm {c:PC} {st:St} {r}:evL L c st=some r↔∃n,yf L n c st=some r:=by
 unfold evL
 split
 ·rename_i h
  obtain⟨n,hn⟩:=h.choose_spec
  constructor
  ·intro e; cases e; exact⟨n,hn⟩
  ·rintro⟨m,hm⟩
   have h1:=C7 (bz n m) hn
   have h2:=C7 (bF n m) hm
   rw[h1] at h2; exact h2
 ·rename_i h
  constructor
  ·intro e; cases e
  ·rintro⟨m,hm⟩; exact absurd ⟨r,m,hm⟩ h
theorem Cs {k:Nat} {args:List PV} {hp:List PObj} {r}:x8 L k args hp=some r↔∃n,call L n k args hp=some r:=by
 unfold x8
 split
 ·rename_i h
  obtain⟨n,hn⟩:=h.choose_spec
  constructor
  ·intro e; cases e; exact⟨n,hn⟩
  ·rintro⟨m,hm⟩
   have h1:=Fe (bz n m) _ _ _ _ hn
   have h2:=Fe (bF n m) _ _ _ _ hm
   rw[h1] at h2; exact h2
 ·rename_i h
  constructor
  ·intro e; cases e
  ·rintro⟨m,hm⟩; exact absurd ⟨r,m,hm⟩ h
theorem FN (n:Nat):Ds (call L n) (x8 L):=λ_ _ _ _ h=>Cs.2 ⟨n,h⟩
theorem IF {n m:Nat} (jl:n≤m):GB (z6 (yf L n) L) (z6 (yf L m) L):=Ou (λ_ _ _ h=>C7 jl h) L
open Classical in
noncomputable def yy (L:Nat→Option PFunc):zT:=λk args hp=>
 if h:∃r,∃n,z6 (yf L n) L k args hp=some r then some h.choose else none
theorem Ew {k:Nat} {args:List PV} {hp:List PObj} {r}:yy L k args hp=some r↔∃n,z6 (yf L n) L k args hp=some r:=by
 unfold yy
 split
 ·rename_i h
  obtain⟨n,hn⟩:=h.choose_spec
  constructor
  ·intro e; cases e; exact⟨n,hn⟩
  ·rintro⟨m,hm⟩
   have h1:=IF (bz n m) _ _ _ _ hn
   have h2:=IF (bF n m) _ _ _ _ hm
   rw[h1] at h2; exact h2
 ·rename_i h
  constructor
  ·intro e; cases e
  ·rintro⟨m,hm⟩; exact absurd ⟨r,m,hm⟩ h
theorem Kt (n:Nat):GB (z6 (yf L n) L) (yy L):=λ_ _ _ _ h=>Ew.2 ⟨n,h⟩
theorem c5I {o:HOp} {st:St} {r} (h:x9 (x8 L) o st=some r):∃n,x9 (call L n) o st=some r:=by
 cases o<;>try exact⟨0,h⟩
 case call k args=>
  simp only[x9,aj,ab] at h ⊢
  obtain⟨vs,h1,q,h2,h3⟩:=h
  obtain⟨n,hn⟩:=Cs.1 h2
  exact⟨n,vs,h1,q,hn,h3⟩
 case zcall k args=>
  simp only[x9,aj] at h ⊢
  obtain⟨vs,h1,h⟩:=h
  split at h
  ·rename_i hw
   simp only[aj] at h
   obtain⟨q,h4,h5⟩:=h
   obtain⟨n,hn⟩:=Cs.1 h4
   exact⟨n,vs,h1,by rw[ai hw,hn]; exact h5⟩
  ·simp at h
 case rcall k args=>
  simp only[x9,aj] at h ⊢
  obtain⟨vs,h1,q,h2,h3⟩:=h
  obtain⟨n,hn⟩:=Cs.1 h2
  exact⟨n,vs,h1,q,hn,h3⟩
 case icall tab x args=>
  simp only[x9,aj,ab] at h ⊢
  obtain⟨m,h0,vs,h1,q,h2,h3⟩:=h
  obtain⟨n,hn⟩:=Cs.1 h2
  exact⟨n,m,h0,vs,h1,q,hn,h3⟩
 case callv x args=>
  simp only[x9] at h ⊢
  split at h
  ·simp only[ab] at h ⊢
   obtain⟨q,h2,h3⟩:=h
   obtain⟨n,hn⟩:=Cs.1 h2
   exact⟨n,q,hn,h3⟩
  ·simp at h
theorem T8 {o:POp} {st:St} {r} (h:opv (x8 L) o st=some r):∃n,opv (call L n) o st=some r:=by
 cases o<;>try exact⟨0,h⟩
 case h o=>exact c5I h
 case pcall k args=>
  simp only[opv] at h ⊢
  split at h
  ·split at h
   ·rename_i hr
    simp only[hr,if_true]
    split at h
    ·rename_i hx
     obtain⟨n,hn⟩:=Cs.1 hx
     exact⟨n,by rw[hn]; exact h⟩
    ·simp at h
   ·simp at h
  ·simp at h
 case pzcall k args=>
  simp only[opv] at h ⊢
  split at h
  ·split at h
   ·rename_i hr
    simp only[hr,if_true]
    split at h
    ·rename_i hx
     obtain⟨n,hn⟩:=Cs.1 hx
     exact⟨n,by rw[hn]; exact h⟩
    ·simp at h
   ·simp at h
  ·simp at h
 case pcallx k args own=>
  simp only[opv] at h ⊢
  cases own with
  | none =>
    simp only at h ⊢
    split at h
    ·split at h
     ·rename_i hr
      simp only[hr,if_true]
      split at h
      ·rename_i hx
       obtain⟨n,hn⟩:=Cs.1 hx
       exact⟨n,by rw[hn]; exact h⟩
      ·simp at h
     ·simp at h
    ·simp at h
  | some i =>
    simp only at h ⊢
    split at h
    ·split at h
     ·rename_i hr
      split at h
      ·rename_i hx
       obtain⟨n,hn⟩:=Cs.1 hx
       exact⟨n,by rw[ai hr,hn]; exact h⟩
      ·simp at h
     ·simp at h
    ·simp at h
 case callv x args=>
  simp only[opv] at h ⊢
  split at h
  ·split at h
   ·rename_i hr
    simp only[hr,if_true]
    split at h
    ·rename_i hx
     obtain⟨n,hn⟩:=Cs.1 hx
     exact⟨n,by rw[hn]; exact h⟩
    ·simp at h
   ·simp at h
  ·simp at h
theorem T9 {j:Nat} {o:PO} {st:St} {r} (h:zf (x8 L) j o st=some r):∃n,zf (call L n) j o st=some r:=by
 simp only[zf] at h ⊢
 split at h
 ·simp only[ab] at h ⊢
  obtain⟨a,h1,h2⟩:=h
  obtain⟨n,hn⟩:=T8 h1
  exact⟨n,a,hn,h2⟩
 ·split at h
  ·split at h
   ·rename_i hb
    simp only[ai hb,ab] at h ⊢
    obtain⟨a,h1,h2⟩:=h
    obtain⟨n,hn⟩:=T8 h1
    exact⟨n,a,hn,h2⟩
   ·rename_i hb
    simp only[ae hb]; exact⟨0,h⟩
  ·exact⟨0,h⟩
  ·simp at h
theorem Ku:∀{os:List PO} {j:Nat} {st:St} {r},AL (x8 L) j os st=some r→∃n,AL (call L n) j os st=some r
 | [],_,_,_,h=>⟨0,h⟩
 | o :: os, j, st, r, h => by
   simp only[AL,aj] at h ⊢
   obtain⟨a,h1,h2⟩:=h
   obtain⟨n,hn⟩:=T9 h1
   obtain⟨m,hm⟩:=Ku h2
   exact⟨max n m,a,Oq (Fe (bz ..)) hn,Ks (Fe (bF ..)) hm⟩
theorem Ua {j:Nat} {o:PO} {st:St} {r} (h:AA (x8 L) (yy L) j o st=some r):∃n,AA (call L n) (z6 (yf L n) L) j o st=some r:=by
 unfold AA at h ⊢
 split at h
 ·split at h
  ·rename_i vs iC
   split at h
   ·rename_i h1
    obtain⟨n,hn⟩:=Ew.1 h1
    exact⟨n,by simp only[iC,hn]; exact h⟩
   ·rename_i h1
    obtain⟨n,hn⟩:=Ew.1 h1
    exact⟨n,by simp only[iC,hn]; exact h⟩
   ·simp at h
  ·simp at h
 ·split at h
  ·rename_i hf vs
   split at h
   ·rename_i h1
    obtain⟨n,hn⟩:=Ew.1 h1
    exact⟨n,by simp only[hf,vs,hn]; exact h⟩
   ·rename_i h1
    obtain⟨n,hn⟩:=Ew.1 h1
    exact⟨n,by simp only[hf,vs,hn]; exact h⟩
   ·simp at h
  ·simp at h
 ·simp at h
 ·simp at h
 ·simp only[ab] at h ⊢
  obtain⟨a,h1,h2⟩:=h
  obtain⟨n,hn⟩:=T9 h1
  exact⟨n,a,hn,h2⟩
theorem IG:∀{os:List PO} {j:Nat} {st:St} {r},zL (x8 L) (yy L) j os st=some r→∃n,zL (call L n) (z6 (yf L n) L) j os st=some r
 | [],_,_,_,h=>⟨0,h⟩
 | o :: os, j, st, r, h => by
   simp only[zL] at h ⊢
   split at h
   ·rename_i h1
    obtain⟨n,hn⟩:=Ua h1
    obtain⟨m,hm⟩:=IG h
    refine⟨max n m,?_⟩
    rw[Ov (Fe (bz n m)) (IF (bz n m)) hn]
    exact Dt (Fe (bF n m)) (IF (bF n m)) hm
   ·rename_i da
    obtain⟨n,hn⟩:=Ua h
    refine⟨n,?_⟩
    rw[hn]
    split
    ·rename_i h1
     simp only[aa] at h1
     subst h1
     exact absurd h (da _)
    ·rfl
theorem C6 {α:Type} {a b:Option α} (h:∀r,a=some r↔b=some r):a=b:=by
 cases a with
 | some x=>exact((h x).1 rfl).symm
 | none => cases b with
   | none=>rfl
   | some y=>exact(h y).2 rfl
theorem D0 {c:PC} {st:St} {r}:evL L c st=some r↔∃n,yf L (n+1) c st=some r:=by
 rw[zm]
 exact⟨fun⟨n,hn⟩=>⟨n,BS n _ _ _ hn⟩,fun⟨n,hn⟩=>⟨n+1,hn⟩⟩
@[simp] theorem c5J {st:St}:evL L .skip st=some (.normal,st):=zm.2 ⟨1,rfl⟩
@[simp] theorem c5K {id:Nat} {st:St}:evL L (.exit id) st=some (.exit id,st):=zm.2 ⟨1,rfl⟩
@[simp] theorem c8L {st:St}:evL L .ret st=some (.ret,st):=zm.2 ⟨1,rfl⟩
theorem c1U {ops:List PO} {st:St}:evL L (.region ops) st=(Az (x8 L) ops st).map λst=>(.normal,zq st):=by
 refine C6 λr =>?_
 rw[D0]
 simp only[yf,ab]
 constructor
 ·rintro⟨n,a,h,e⟩; exact⟨a,GA (FN n) h,e⟩
 ·rintro⟨a,h,e⟩
  obtain⟨n,hn⟩:=Ku h
  exact⟨n,a,hn,e⟩
theorem c1V {ops:List PO} {x:PX} {a b:PC} {st:St}:evL L (.branch ops x a b) st =
  (Az (x8 L) ops st).bind λst=>match rd st x with | some (.bool t)=>evL L (if t then a else b) (zq st) | _=>none:=by
 refine C6 λr =>?_
 rw[D0]
 simp only[yf,aj]
 constructor
 ·rintro⟨n,h⟩
  split at h
  ·rename_i s1 h1
   refine⟨s1,GA (FN n) h1,?_⟩
   split at h
   ·rename_i t h2; simp only[h2]; exact zm.2 ⟨n,h⟩
   ·simp at h
  ·simp at h
 ·rintro⟨s1,h1,h2⟩
  obtain⟨n,hn⟩:=Ku h1
  split at h2
  ·rename_i t h3
   obtain⟨m,hm⟩:=zm.1 h2
   refine⟨max n m,?_⟩
   rw[show Az (zI (yf L (max n m)) L) ops st=some s1 from Ks (Fe (bz ..)) hn]
   simp only[h3]
   exact C7 (bF ..) hm
  ·simp at h2
@[simp] theorem c8M {a b:PC} {st:St}:evL L (.seq a b) st=match evL L a st with | some (.normal,st)=>evL L b st | some (.after _ _ _,_)=>none | r=>r:=by
 refine C6 λr =>?_
 rw[D0]
 simp only[yf]
 constructor
 ·rintro⟨n,h⟩
  split at h
  ·rename_i s1 h1; rw[zm.2 ⟨n,h1⟩]; exact zm.2 ⟨n,h⟩
  ·simp at h
  ·rename_i da fW
   rw[zm.2 ⟨n,h⟩]
   split
   ·rename_i h1; cases h1; exact absurd h (da _)
   ·rename_i h1; cases h1; exact absurd h (fW _ _ _ _)
   ·rfl
 ·intro h
  split at h
  ·rename_i s1 h1
   obtain⟨n,hn⟩:=zm.1 h1
   obtain⟨m,hm⟩:=zm.1 h
   refine⟨max n m,?_⟩
   rw[C7 (bz ..) hn]
   exact C7 (bF ..) hm
  ·simp at h
  ·rename_i da fW
   obtain⟨n,hn⟩:=zm.1 h
   refine⟨n,?_⟩
   rw[hn]
   split
   ·rename_i h1; cases h1; exact absurd h (da _)
   ·rename_i h1; cases h1; exact absurd h (fW _ _ _ _)
   ·rfl
theorem c5L {c:PC} {st:St}:evL L (.loop c) st=match evL L c st with | some (.normal,st)=>evL L (.loop c) st | some (.after _ _ _,_)=>none | r=>r:=by
 refine C6 λr =>?_
 rw[D0]
 simp only[yf]
 constructor
 ·rintro⟨n,h⟩
  split at h
  ·rename_i s1 h1; rw[zm.2 ⟨n,h1⟩]; exact zm.2 ⟨n,h⟩
  ·simp at h
  ·rename_i da fW
   rw[zm.2 ⟨n,h⟩]
   split
   ·rename_i h1; cases h1; exact absurd h (da _)
   ·rename_i h1; cases h1; exact absurd h (fW _ _ _ _)
   ·rfl
 ·intro h
  split at h
  ·rename_i s1 h1
   obtain⟨n,hn⟩:=zm.1 h1
   obtain⟨m,hm⟩:=zm.1 h
   refine⟨max n m,?_⟩
   rw[C7 (bz ..) hn]
   exact C7 (bF ..) hm
  ·simp at h
  ·rename_i da fW
   obtain⟨n,hn⟩:=zm.1 h
   refine⟨n,?_⟩
   rw[hn]
   split
   ·rename_i h1; cases h1; exact absurd h (da _)
   ·rename_i h1; cases h1; exact absurd h (fW _ _ _ _)
   ·rfl
@[simp] theorem c3U {id:Nat} {c:PC} {st:St}:evL L (.block id c) st=match evL L c st with | some (.exit i,st)=>if i=id then some (.normal,st) else some (.exit i,st) | some (.after _ _ _,_)=>none | r=>r:=by
 refine C6 λr =>?_
 rw[D0]
 simp only[yf]
 constructor
 ·rintro⟨n,h⟩
  split at h
  ·rename_i h1; rw[zm.2 ⟨n,h1⟩]; exact h
  ·simp at h
  ·rename_i da fW
   rw[zm.2 ⟨n,h⟩]
   split
   ·rename_i h1; cases h1; exact absurd h (da _ _)
   ·rename_i h1; cases h1; exact absurd h (fW _ _ _ _)
   ·rfl
 ·intro h
  split at h
  ·rename_i h1
   obtain⟨n,hn⟩:=zm.1 h1
   exact⟨n,by rw[hn]; exact h⟩
  ·simp at h
  ·rename_i da fW
   obtain⟨n,hn⟩:=zm.1 h
   refine⟨n,?_⟩
   rw[hn]
   split
   ·rename_i h1; cases h1; exact absurd h (da _ _)
   ·rename_i h1; cases h1; exact absurd h (fW _ _ _ _)
   ·rfl
theorem b9C {ops:List PO} {st:St}:evL L (.bregion ops) st=match zL (x8 L) (yy L) 0 ops (CI ops.length st) with
  | some (none,st)=>some (.normal,zq st)
  | some (some v,st)=>some (.boom v,zq st)
  | none=>none:=by
 refine C6 λr =>?_
 rw[D0]
 simp only[yf]
 constructor
 ·rintro⟨n,h⟩
  split at h
  ·rename_i h1; rw[Dt (FN n) (Kt n) h1]; exact h
  ·rename_i h1; rw[Dt (FN n) (Kt n) h1]; exact h
  ·simp at h
 ·intro h
  split at h
  ·rename_i h1
   obtain⟨n,hn⟩:=IG h1
   exact⟨n,by simp only[call] at hn; rw[hn]; exact h⟩
  ·rename_i h1
   obtain⟨n,hn⟩:=IG h1
   exact⟨n,by simp only[call] at hn; rw[hn]; exact h⟩
  ·simp at h
theorem b9D {ops:List PO} {x:PX} {a b:PC} {st:St}:evL L (.bbranch ops x a b) st=match zL (x8 L) (yy L) 0 ops (CI ops.length st) with
  | some (none,st)=>(match rd st x with | some (.bool t)=>evL L (if t then a else b) (zq st) | _=>none)
  | some (some v,st)=>some (.boom v,zq st)
  | none=>none:=by
 refine C6 λr =>?_
 rw[D0]
 simp only[yf]
 constructor
 ·rintro⟨n,h⟩
  split at h
  ·rename_i h1
   rw[Dt (FN n) (Kt n) h1]
   simp only
   split at h
   ·rename_i t h2
    rw[h2]
    exact zm.2 ⟨n,h⟩
   ·simp at h
  ·rename_i h1; rw[Dt (FN n) (Kt n) h1]; exact h
  ·simp at h
 ·intro h
  split at h
  ·rename_i h1
   obtain⟨n,hn⟩:=IG h1
   split at h
   ·rename_i t h2
    obtain⟨m,hm⟩:=zm.1 h
    refine⟨max n m,?_⟩
    have:=Dt (Fe (bz n m)) (IF (bz n m)) hn
    simp only[call] at this
    rw[this]
    simp only[h2]
    exact C7 (bF ..) hm
   ·simp at h
  ·rename_i h1
   obtain⟨n,hn⟩:=IG h1
   exact⟨n,by simp only[call] at hn; rw[hn]; exact h⟩
  ·simp at h
theorem c3V {ops:List PO} {t:Nat} {x:PX} {st:St}:evL L (.raise ops t x) st=match Az (x8 L) ops st with
  | some st=>(match rd st x with | some p=>some (.boom (.iface t p),zq st) | none=>none)
  | none=>none:=by
 refine C6 λr =>?_
 rw[D0]
 simp only[yf]
 constructor
 ·rintro⟨n,h⟩
  split at h
  ·rename_i st1 h1
   rw[GA (FN n) h1]
   simp only
   cases hr:rd st1 x with
   | none=>rw[hr] at h; simp at h
   | some p=>rw[hr] at h; exact h
  ·simp at h
 ·intro h
  split at h
  ·rename_i st1 h1
   obtain⟨n,hn⟩:=Ku h1
   refine⟨n,?_⟩
   rw[show Az (zI (yf L n) L) ops st=some st1 from hn]
   simp only
   cases hr:rd st1 x with
   | none=>rw[hr] at h; simp at h
   | some p=>rw[hr] at h; exact h
  ·simp at h
theorem b9E {kd:Nat} {caps:List PX} {c:PC} {st:St} (hn:c.NR=true):evL L (.guarded kd caps c) st=match rdAll st caps with
  | some cs => (match evL L c st with
    | some (.normal,st)=>some (.after kd cs none,st)
    | some (.ret,st)=>some (.after kd cs none,st)
    | some (.boom v,st)=>some (.after kd cs (some v),st)
    | _=>none)
  | none=>none:=by
 refine C6 λr =>?_
 rw[D0]
 simp only[yf,hn,Bool.true_eq_false,if_false]
 constructor
 ·rintro⟨n,h⟩
  split at h
  ·rename_i dS
   simp only[dS]
   split at h
   ·rename_i h1; rw[zm.2 ⟨n,h1⟩]; exact h
   ·rename_i h1; rw[zm.2 ⟨n,h1⟩]; exact h
   ·rename_i h1; rw[zm.2 ⟨n,h1⟩]; exact h
   ·simp at h
  ·simp at h
 ·intro h
  split at h
  ·rename_i dS
   simp only[dS]
   split at h
   ·rename_i h1
    obtain⟨n,hn⟩:=zm.1 h1
    exact⟨n,by rw[hn]; exact h⟩
   ·rename_i h1
    obtain⟨n,hn⟩:=zm.1 h1
    exact⟨n,by rw[hn]; exact h⟩
   ·rename_i h1
    obtain⟨n,hn⟩:=zm.1 h1
    exact⟨n,by rw[hn]; exact h⟩
   ·simp at h
  ·simp at h
theorem b71 {nv:Nat} {a b:PC} {args:List PV} {h:List PObj} {r} (hr:Dy (evL L) nv a b args h=some r):∃n,Dy (yf L n) nv a b args h=some r:=by
 unfold Dy at hr ⊢
 split at hr
 ·split at hr
  ·rename_i h1 h2
   obtain⟨n,hn⟩:=zm.1 h2
   split at hr
   all_goals first
    | (rename_i h3 h4
       obtain⟨m,hm⟩:=zm.1 h4
       refine⟨max n m,?_⟩
       simp only[h1,C7 (bz n m) hn,h3,C7 (bF n m) hm]
       exact hr)
    | simp at hr
  ·simp at hr
 ·simp at hr
theorem Ub {dfr} {f:PFunc} {args:List PV} {h:List PObj} {r} (hr:Bn (evL L) dfr f args h=some r):∃n,Bn (yf L n) dfr f args h=some r:=by
 unfold Bn at hr ⊢
 split at hr
 ·exact b71 hr
 ·split at hr
  ·rename_i h1
   obtain⟨n,hn⟩:=zm.1 h1
   exact⟨n,by rw[hn]; exact hr⟩
  ·rename_i h1
   obtain⟨n,hn⟩:=zm.1 h1
   exact⟨n,by rw[hn]; exact hr⟩
  ·rename_i h1
   obtain⟨n,hn⟩:=zm.1 h1
   exact⟨n,by rw[hn]; exact hr⟩
  ·rename_i h1
   obtain⟨n,hn⟩:=zm.1 h1
   exact⟨n,by rw[hn]; exact hr⟩
  ·simp at hr
theorem Ow {dfr} {f:PFunc} {args:List PV} {h:List PObj} {r} (hr:BM (evL L) dfr f args h=some r):∃n,BM (yf L n) dfr f args h=some r:=by
 simp only[BM] at hr ⊢
 split at hr
 ·simp at hr
 ·rename_i hn
  rw[IC] at hr
  obtain⟨n,h⟩:=Ub hr
  exact⟨n,by rw[ae hn,IC]; exact h⟩
theorem Kv {n m:Nat} (h:n≤m):∀(c:PC) (st:St) (r),yf L n c st=some r→yf L m c st=some r:=by
 intro c st r hr
 induction h with
 | refl=>exact hr
 | step _ ih=>exact BS _ _ _ _ ih
theorem Ox {f:PFunc} {o:Option Nat} {args:List PV} {h:List PObj} {r} (hr:Bo (evL L) f o args h=some r):∃n,Bo (yf L n) f o args h=some r:=by
 unfold Bo at hr ⊢
 split at hr
 ·simp at hr
 ·rename_i hn
  split at hr
  ·rename_i h1
   obtain⟨n,gI⟩:=zm.1 h1
   exact⟨n,by rw[ae hn,gI]; exact hr⟩
  ·rename_i h1
   obtain⟨n,gI⟩:=zm.1 h1
   exact⟨n,by rw[ae hn,gI]; exact hr⟩
  ·simp at hr
theorem b9F {f:PFunc} {args:List PV} {h:List PObj} {r} (hr:CJ (evL L) f args h=some r):∃n,CJ (yf L n) f args h=some r:=by
 unfold CJ at hr ⊢
 split at hr
 ·split at hr
  ·rename_i hd
   try simp only[hd]
   split at hr
   ·rename_i hl
    simp only[ai hl]
    split at hr
    ·rename_i hs
     rw[Dq] at hr
     obtain⟨n,hn⟩:=Ox hr.1
     obtain⟨m,hm⟩:=Ox hr.2
     refine⟨max n m,?_⟩
     rw[ai hs,Dq]
     exact⟨IE (Kv (bz ..)) hn,IE (Kv (bF ..)) hm⟩
    ·rename_i hs
     obtain⟨n,hn⟩:=Ox hr
     exact⟨n,by rw[ae hs]; exact hn⟩
   ·simp at hr
  ·simp at hr
 ·simp at hr
theorem IH {k:Nat} {args:List PV} {hp:List PObj}:x8 L k args hp=zI (evL L) L k args hp:=by
 refine C6 λr =>?_
 rw[Cs]
 simp only[call,zI]
 constructor
 ·rintro⟨n,h⟩
  exact Ot (ex:=yf L n) (λc st r h=>zm.2 ⟨n,h⟩) L k args hp r h
 ·intro h
  split at h
  ·simp at h
  ·rename_i f hf
   split at h
   ·rename_i hl
    simp only[ai hl]
    split at h
    ·exact⟨0,h⟩
    split at h
    ·rename_i hs
     rw[Dq] at h
     obtain⟨n,hn⟩:=Ow h.1
     obtain⟨m,hm⟩:=Ow h.2
     refine⟨max n m,?_⟩
     rw[ai hs,Dq]
     exact⟨ID (Kv (bz ..)) hn,ID (Kv (bF ..)) hm⟩
    ·rename_i hs
     obtain⟨n,hn⟩:=Ow h
     exact⟨n,by rw[ae hs]; exact hn⟩
   ·rename_i hl
    obtain⟨n,hn⟩:=b9F h
    exact⟨n,by rw[ae hl]; exact hn⟩
theorem c8N {k:Nat} {args:List PV} {hp:List PObj}:yy L k args hp=z6 (evL L) L k args hp:=by
 refine C6 λr =>?_
 rw[Ew]
 constructor
 ·rintro⟨n,h⟩
  exact Ou (ex:=yf L n) (λc st r h=>zm.2 ⟨n,h⟩) L k args hp r h
 ·intro h
  simp only[z6] at h ⊢
  split at h
  ·simp at h
  ·rename_i f hf
   split at h
   ·rename_i hl
    simp only[ai hl]
    split at h
    ·exact⟨0,h⟩
    ·exact Ub h
   ·simp at h
theorem c5M {k:Nat} {f:PFunc} {args:List PV} {hp:List PObj} (hf:L k=some f) (hl:args.length=f.params) {r:PV×List PObj}
  (he:Bn (evL L) (Ar L) f args hp=some (.val r.1,r.2)) (hs:f.split=false:=by rfl) (gn:f.prim=none:=by rfl) (hr:f.code.isRound=false:=by rfl):
  x8 L k args hp=some r:=by
 rw[IH,zI,hf]
 simp only[ai hl,hs,gn,cd,aL,if_false,BM,hr]
 rw[IC]; exact he
theorem TN {k:Nat} {f:PFunc} {args:List PV} {hp:List PObj} (hf:L k=some f) (hl:args.length=f.params) {r:Out×List PObj}
  (he:Bn (evL L) (Ar L) f args hp=some r) (hs:f.split=false:=by rfl) (gn:f.prim=none:=by rfl):
  yy L k args hp=some r:=by
 rw[c8N,z6,hf]
 simp only[hl,hs,gn,and_self,if_true]
 exact he
theorem b72 (own:Option Nat):GP (GO own)=own:=by cases own<;>simp[GP,GO]
theorem Tk (own:Option Nat) (args:List PV):(BX own args).length=args.length+1002:=by simp only[BX,aB,ap,c7r]; omega
theorem Tl (ex:PC→St→Option (PExit×St)) (f:PFunc) (own:Option Nat) (args:List PV) (h:List PObj):CJ ex f (BX own args) h =
  if args.length=f.params∧f.prim=none then
   if f.split&&vague (args.headD .dead) then EC (Bo ex f own (.nils::args.tail) h) (Bo ex f own (.void::args.tail) h)
   else Bo ex f own args h
  else none:=by
 have:(pad++GO own::args).drop pad.length=GO own::args:=List.drop_left' rfl
 unfold CJ BX
 simp only
 rw[this]
 simp only[b72]
theorem c3X {k:Nat} {f:PFunc} {own:Option Nat} {args:List PV} {hp:List PObj} (hf:L k=some f) (hl:args.length=f.params) {r:PV×List PObj}
  (he:Bo (evL L) f own args hp=some r) (hs:f.split=false:=by rfl) (gn:f.prim=none:=by rfl) (iE:f.params<1000:=by decide):x8 L k (BX own args) hp=some r:=by
 rw[IH,zI,hf]
 have:¬(BX own args).length=f.params:=by rw[Tk]; omega
 simp only[ae this,Tl,hl,gn,and_self,if_true,hs,cd,aL,if_false]
 exact he
end
end PI
