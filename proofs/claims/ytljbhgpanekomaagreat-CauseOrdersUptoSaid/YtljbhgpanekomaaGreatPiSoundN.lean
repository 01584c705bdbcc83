import Derived.Test.YtljbhgpanekomaaGreatPiComp
import Derived.Laws.MakeOwn
import Derived.Laws.RangeString
import Derived.Orders
import Derived.LoopN
import Derived.RangeFuncLeaves
import Derived.RangeFuncIn
import Derived.LoopNIn
import Derived.OrdersIn
import Derived.BigRegion
import Derived.RangeFuncRecord
import Derived.Test.YtljbhgpanekomaaGreatPiBase
set_option maxRecDepth 100000
set_option linter.unusedSimpArgs false
set_option linter.unusedVariables false
set_option linter.unusedSectionVars false
namespace PI
open Go
section
variable {E:Env} {N:Nm} {w:World} {G:GS} {st:St} {a:Act} {vs:List Tmp} {ops:List Oper} {P:Program}
variable {o:Oper} {j:Nat} {next:Act→World→Prop} {Q:Exit→Act→World→Prop} {u:PV} {st1:St}
theorem KM {α:Type} (l:List α):∀(n k:Nat),(List.replicate n l).flatten[k]? = if k<n*l.length then l[k % l.length]? else none
 | 0,k=>by simp
 | n + 1, k => by
   have ih:=KM l n (k - l.length)
   have e:(n+1)*l.length=n*l.length+l.length:=Nat.succ_mul _ _
   rw[List.replicate_succ,List.flatten_cons,List.getElem?_append,ih,e]
   by_cases hk:k<l.length
   ·have:k<n*l.length+l.length:=by omega
    simp only[hk,this,Nat.mod_eq_of_lt hk,if_true]
   ·have hm:(k - l.length) % l.length=k % l.length:=(Nat.mod_eq_sub_mod (by omega)).symm
    by_cases h2:k - l.length<n*l.length
    ·have:k<n*l.length+l.length:=by omega
     simp only[hk,h2,this,if_true,if_false,hm]
    ·have:¬k<n*l.length+l.length:=by omega
     simp only[hk,h2,this,if_false]
theorem Uw {x y:Operand} (h:Iu x y=true) {k:IntKind} {n:Int} (hx:a.eval x = .int k n):∃k',a.eval y = .int k' n:=by
 unfold Iu at h
 split at h
 ·simp at h; subst h; exact⟨k,hx⟩
 ·simp at h; subst h
  simp only[Act.eval] at hx ⊢
  cases hx
  exact⟨_,rfl⟩
 ·simp at h
theorem b9m (hE:EnvOk E N) (nm:Names vs (yk vs ops)) (ho:ops[j]? = some o) (hf:FI N w G st a vs (yk vs ops)) {t e:TypeId} {l c:Operand} {px:PX} {size:Nat} {z:List PV} (cZ:o.op = .makeSlice t l c)
  (hu:P.underlying t=some (.slice e)) (hn:yX P e=some size) (hz:Ac P e=some z) (dA:Iu l c=true) (hx:cx E vs ops l=some px) {cf:yt} (hs:yo cf (.mkarr size (zl P e) (P.bytesOf e) z px) st=some (u,st1)) (hk:yK N w G a st1 u vs ops j o next):o.wp P a w next Q:=by
 simp only[yo] at hs
 split at hs
 ·rename_i n eY
  split at hs
  ·rename_i hc
   obtain⟨h0,hb,hm⟩:=hc
   simp only[aa,ac] at hs
   obtain⟨rfl,rfl⟩:=hs
   obtain⟨k,hl⟩:=EF hE hx hf eY
   obtain⟨k',oD⟩:=Uw dA hl
   obtain⟨i,d,hi,gP,fZ,hd⟩:=Be hn
   obtain⟨i2,zv,ez,j5,_,kD,gG,_⟩:=Ef (N:=N) (w:=w) (fix:=G.fix) (hp:=G.heap) hz
   have:i2=i:=by rw[hi] at ez; simpa using ez.symm
   subst this
   subst gP
   have iq:zv.cells.size=i2.size:=by have:=gG.1; simp at this; omega
   have ie:P.bytesOf e=i2.bytes:=by simp[Program.bytesOf,hi]
   rw[ie] at hb
   have da:=run_make (P:=P) w t e i2 zv hu hi j5 k k' n n h0 (Int.le_refl _) hb hm
   refine IP (mob := .cells (madeCells zv.cells (n.toNat*i2.size)) e) (v := .slice (some ⟨w.heap.size,0,none⟩) n.toNat n.toNat) nm ho hf ?_ ?_ (λG' hG cX=>KH hf ?_ ?_ hG cX) hk
   ·simp[execOp,cZ,hl,oD,da]
   ·rintro G' rfl
    refine .rowp _ _ _ _ w.heap.size _ (by simp[GS.more]) (am _) ⟨e,n.toNat*i2.size,?_,am _⟩
    simp only[World.shape?,Df,size_madeCells]
   ·intro k c x hc hx
    rw[KM] at hx
    have gk:z.length=i2.size:=by have:=gG.1; simp at this; omega
    rw[gk] at hx
    split at hx
    ·rename_i dc
     have jb:k % i2.size<i2.size:=bV _ (by omega)
     have gU:c=zv.cells[k % i2.size]! := by
      simp only[madeCells,bU,ab] at hc
      obtain⟨a',ha,rfl⟩:=hc
      have:a'=k:=by
       obtain⟨h1,h2⟩:=aX.1 ha
       simpa using h2.symm
      rw[this,iq]
     have nA:zv.cells[k % i2.size]? = some c:=by
      rw[gU]
      have:k % i2.size<zv.cells.size:=by omega
      simp[this]
     refine⟨gG.2.2 _ c x (by simpa using nA) hx,gG.2.1 x (ax hx),?_⟩
     rintro es rfl
     have i8:=hz
     unfold Ac at i8
     simp only[hi,j5,aj] at i8
     obtain⟨cs',d9,i8⟩:=i8
     split at i8
     ·simp at i8; subst i8
      exact GO d9 _ c es (by simpa using nA) hx
     ·simp at i8
    ·simp at hx
   ·have gk:z.length=i2.size:=by have:=gG.1; simp at this; omega
    rw[size_madeCells]
    simp[List.length_flatten,gk]
  ·simp at hs
 ·simp at hs
theorem O4 {size:Nat}:∀{xs:List PV},(∀e∈xs,e.cells.length=size)→(xs.flatMap PV.cells).length=xs.length*size∧∀(i:Nat) (e:PV),xs[i]? = some e→∀k,k<size→(xs.flatMap PV.cells)[i*size+k]? = e.cells[k]?
 | [],_=>by simp
 | x :: xs, h => by
   obtain⟨h1,h2⟩:=O4 (xs:=xs) (λe he=>h e (bo _ he))
   have hx:=h x (bZ ..)
   refine⟨by simp only[aM,ao,h1,hx,aB,aS,Nat.one_mul]; omega,?_⟩
   intro i e he k hk
   rw[aM]
   cases i with
   | zero =>
     simp at he; subst he
     rw[Nat.zero_mul,aU,al (by omega)]
   | succ i =>
     rw[aS,Nat.one_mul,aq (by omega),hx]
     have:=h2 i e (by simpa using he) k hk
     rw[show i*size+size+k - size=i*size+k by omega]
     exact this
theorem b6f (hE:EnvOk E N) (nm:Names vs (yk vs ops)) (ho:ops[j]? = some o) (hf:FI N w G st a vs (yk vs ops)) {t e:TypeId} {l c:Operand} {px:PX} {size:Nat} {z:List PV} (cZ:o.op = .makeSlice t l c)
  (hu:P.underlying t=some (.slice e)) (hn:yX P e=some size) (hz:Ac P e=some z) (dA:Iu l c=true) (hx:cx E vs ops l=some px) {cf:yt} (hs:yo cf (.mkfresh size (zl P e) (P.bytesOf e) z px) st=some (u,st1)) (hk:yK N w G a st1 u vs ops j o next):o.wp P a w next Q:=by
 simp only[yo] at hs
 split at hs
 ·rename_i n eY
  split at hs
  ·rename_i hc
   obtain⟨h0,hb,hm⟩:=hc
   simp only[aa,ac] at hs
   obtain⟨rfl,rfl⟩:=hs
   obtain⟨k,hl⟩:=EF hE hx hf eY
   obtain⟨k',oD⟩:=Uw dA hl
   obtain⟨i,d,hi,gP,fZ,hd⟩:=Be hn
   obtain⟨i2,zv,ez,j5,_,kD,gG,_⟩:=Ef (N:=N) (w:=w) (fix:=G.fix) (hp:=G.heap) hz
   have:i2=i:=by rw[hi] at ez; simpa using ez.symm
   subst this
   subst gP
   have iq:zv.cells.size=i2.size:=by have:=gG.1; simp at this; omega
   have ie:P.bytesOf e=i2.bytes:=by simp[Program.bytesOf,hi]
   rw[ie] at hb
   have da:=run_make (P:=P) w t e i2 zv hu hi j5 k k' n n h0 (Int.le_refl _) hb hm
   let key:Key:=An (yR vs o.dst) j
   let mob:Obj := .cells (madeCells zv.cells (n.toNat*i2.size)) e
   let G':GS:={ G with ow:=λx=>if x=w.heap.size then some key else G.ow x }
   have cX:Ext w G (w.alloc mob) G':=by
    refine⟨rfl,rfl,rfl,by simp,λb hb _=>AF hb,λb o h=>⟨h,E9 (hf.fixlt _ _ h)⟩,λ_ _ h => .inl h,?_,λ_ _ h=>h,.same λk hk=>AF hk,rfl⟩
    intro b hb
    by_cases dc:b<w.heap.size
    ·refine .inr ?_
     simp only[G'] at hb
     rw[ae (by omega)] at hb
     exact hb
    ·exact .inl (by omega)
   have db:zu (λ_=>False) w G (w.alloc mob) G':=by
    refine⟨?_,λ_ _ h=>h⟩
    intro b k hb _
    have dc:=hf.owlt _ _ hb
    refine⟨?_,AF dc,λ_ h=>h⟩
    simp only[G']
    rw[ae (by omega)]; exact hb
   have dD:FI N (w.alloc mob) G' st a vs (yk vs ops):=hf.ext cX db hf.gen (by
    intro b k hb
    simp only[G'] at hb
    split at hb
    ·show _<(w.alloc mob).heap.size
     simp; omega
    ·have:=hf.owlt _ _ hb
     show _<(w.alloc mob).heap.size
     simp; omega) (by intro b o h; have:=hf.fixlt _ _ h; show _<(w.alloc mob).heap.size; simp; omega)
   unfold Oper.wp
   have hr:(execOp a.eval o).run P w = .ok (.value (.slice (some ⟨w.heap.size,0,none⟩) n.toNat n.toNat)) (w.alloc mob):=by simp[execOp,cZ,hl,oD,da,mob]
   rw[hr]
   refine hk _ _ G' (dD.put nm (BH ho) ?_) cX (BJ _ _ _)
   have gk:z.length=i2.size:=by have:=gG.1; simp at this; omega
   refine⟨w.heap.size,rfl,by simp[G',key],λo h=>by have:=hf.fixlt _ _ h; omega,_,e,Df,?_,by rw[size_madeCells]; exact am _,?_⟩
   ·rw[size_madeCells]; simp[gk]
   ·intro k c x hc hx
    rw[KM] at hx
    rw[aG,gk] at hx
    split at hx
    ·rename_i dc
     have jb:k % i2.size<i2.size:=bV _ (by omega)
     rw[aF,ab] at hx
     obtain⟨y,hy,rfl⟩:=hx
     have gU:c=zv.cells[k % i2.size]! := by
      simp only[madeCells,bU,ab] at hc
      obtain⟨a',ha,rfl⟩:=hc
      have:a'=k:=by
       obtain⟨h1,h2⟩:=aX.1 ha
       simpa using h2.symm
      rw[this,iq]
     have nA:zv.cells[k % i2.size]? = some c:=by
      rw[gU]
      have:k % i2.size<zv.cells.size:=by omega
      simp[this]
     have fQ:=gG.2.1 y (ax hy)
     refine⟨((gG.2.2 _ c y (by simpa using nA) hy).dem).ext cX,by cases y<;>simp_all [dem,PV.flat],?_⟩
     rintro es he
     cases y<;>simp[dem] at he
    ·simp at hx
  ·simp at hs
 ·simp at hs
theorem FI.adopt {j':Nat} {t':Tmp} {sz len:Nat} {agg:Bool} {cs:List PV} (hf:FI N w G st a vs (yk vs ops)) (nm:Names vs (yk vs ops)) (hj:yk vs ops j'=some t') (hs:st.locs[j']? = some (.fresh sz agg len cs)):
  ∃G',FI N w G' { st with locs:=st.locs.set j' (.rowp st.heap.length sz agg len),heap:=st.heap++[.cells cs] } a vs (yk vs ops)∧Ext w G w G':=by
 obtain⟨b,hv,dU,r8,cv,T,hh,hl,cY,oD⟩:=hf.loc j' t' _ hj hs
 have fK:=hf.owlt _ _ dU
 let G':GS:=G.more b st.heap.length
 have cX:Ext w G w G':=by
  refine⟨rfl,rfl,rfl,am _,λ_ _ _=>rfl,λb o h=>⟨h,rfl⟩,λ_ _ h => .inl h,?_,?_,.same λk hk=>rfl,rfl⟩
  ·intro x hx
   refine .inr ?_
   simp only[G',GS.more] at hx
   by_cases gR:x=b
   ·subst gR; rw[dU]; simp
   ·rw[ae gR] at hx; exact hx
  ·intro n x h
   have:=hf.hdom _ _ h
   simp only[G',GS.more]
   rw[ae (by omega)]; exact h
 have db:zu (λk=>k = .loc j') w G w G':=by
  refine⟨?_,λ_ _ h=>h⟩
  intro x k hx dh
  refine⟨?_,rfl,λ_ h=>h⟩
  simp only[G',GS.more]
  rw[ae]
  ·exact hx
  ·rintro rfl
   rw[dU] at hx
   cases hx
   exact dh rfl
 refine⟨G',⟨hf.len,λi t u h1 h2=>(hf.var i t u h1 h2).keep cX db (by simp) (by simp),?_,hf.tv,hf.tl,hf.defers,hf.gen,?_,hf.fixlt,?_,?_⟩,cX⟩
 ·intro i t u h1 h2
  rw[aO] at h2
  split at h2
  ·rename_i hi
   subst hi
   split at h2
   ·simp only[aa] at h2
    subst h2
    have:t=t':=by rw[hj] at h1; simpa using h1.symm
    subst this
    rw[hv]
    refine SR.of_pure (.rowp _ _ _ _ b _ (by simp[G',GS.more]) (am _) ⟨T,cv.size,?_,cY⟩) rfl
    simp[World.shape?,hh]
   ·simp at h2
  ·rename_i hi
   exact(hf.loc i t u h1 h2).keep cX db (by simp; omega) (by simp)
 ·intro x k hx
  simp only[G',GS.more] at hx
  split at hx
  ·subst_vars; exact fK
  ·exact hf.owlt _ _ hx
 ·refine hf.heap.push cX db (λ_ _ _ => .inr ⟨by simp,by simp⟩) (.inr ⟨b,by simp[G',GS.more],by simp[G',GS.more],r8,cv,T,hh,hl,?_⟩)
  intro k c x hc hx
  obtain⟨k1,k2,k3⟩:=oD k c x hc hx
  refine⟨k1.ext cX,k2,?_⟩
  split
  ·exact absurd rfl (k3 _)
  ·trivial
 ·intro n x h
  simp only[G',GS.more] at h
  simp only[ao,cR]
  split at h
  ·omega
  ·have:=hf.hdom _ _ h; omega
theorem FI.adoptAll (nm:Names vs (yk vs ops)):∀{js:List Nat} {G:GS} {st st':St},FI N w G st a vs (yk vs ops)→(∀j∈js,∃t,yk vs ops j=some t)→PI.adoptAll js st=some st'→∃G',FI N w G' st' a vs (yk vs ops)∧Ext w G w G'
 | [], G, st, st', hf, _, h => by
   simp only[PI.adoptAll,aa] at h; subst h
   exact⟨G,hf,Ext.refl _ _⟩
 | j :: js, G, st, st', hf, hl, h => by
   simp only[PI.adoptAll] at h
   split at h
   ·rename_i sz agg len cs hs
    obtain⟨t,ht⟩:=hl j (by simp)
    obtain⟨G1,dD,e1⟩:=hf.adopt nm ht hs
    obtain⟨G2,jD,e2⟩:=FI.adoptAll nm dD (λj' kM=>hl j' (by simp[kM])) h
    exact⟨G2,jD,e1.trans e2⟩
   ·simp at h
theorem d2f {t:Tmp} {j:Nat} (h:cx E vs ops (.tmp t)=some (.l j)):∃t,yk vs ops j=some t:=by
 simp only[cx] at h
 split at h
 ·simp at h
 ·rename_i hi
  cases hd:Gv t ops 0 with
  | none=>rw[hd] at h; simp at h
  | some k =>
    rw[hd] at h
    simp only[aC,aa,PX.l.injEq] at h
    subst h
    obtain⟨_,o',h2,h3⟩:=OH hd
    simp only[Nat.sub_zero] at h2
    exact⟨t,by simp[yk,h2,h3,hi]⟩
theorem b73 (hE:EnvOk E N) (nm:Names vs (yk vs ops)) (ho:ops[j]? = some o) (hf:FI N w G st a vs (yk vs ops)) {t:TypeId} {parts:Array (Nat×Operand)} {fs:Array Field} {places:List (Nat×Nat)} {z:List PV} {ps:List (Nat×Nat×PX)} {js:List Nat}
  (cZ:o.op = .build t parts) (hu:P.underlying t=some (.struct fs)) (hz:Ac P t=some z) (fl:fs.toList.mapM (λf=>(P.info? f.type).map λi=>(f.offset,i.size))=some places) (hj:∀j∈js,∃t,yk vs ops j=some t)
  (hc:E7 E vs ops (places.toArray[·]?) parts.toList=some ps) {cf:yt} (hs:yo cf (.buildA js z ps) st=some (u,st1)) (hk:yK N w G a st1 u vs ops j o next):o.wp P a w next Q:=by
 simp only[yo,aj] at hs
 obtain⟨st0,ha,hb⟩:=hs
 obtain⟨G',iP,cX⟩:=FI.adoptAll nm hf hj ha
 refine T8 (cf:=cf) hE nm ho iP cZ hu hz fl hc ?_ (u:=u) (st1:=st1) ?_
 ·simp only[opv]
  exact hb
 ·intro a' w' G2 h1 h2 h3
  exact hk a' w' G2 h1 (cX.trans h2) h3
theorem b9n (hE:EnvOk E N) (nm:Names vs (yk vs ops)) (ho:ops[j]? = some o) (hf:FI N w G st a vs (yk vs ops)) {t:TypeId} {n:Nat} {x:Operand} {px:PX} (cZ:o.op = .load t x) (hn:yX P t=some n) (ml:zl P t=false)
  (hx:cx E vs ops x=some px) {cf:yt} (hs:yo cf (.loadn px) st=some (u,st1)) (hk:yK N w G a st1 u vs ops j o next):o.wp P a w next Q:=by
 have fZ:=hs
 simp only[yo] at hs
 split at hs
 ·rename_i m off ha
  simp only[aj] at hs
  obtain⟨cs,hg,hs⟩:=hs
  split at hs
  ·rename_i es hcell
   refine Uk (tk:=true) (cf:=cf) hE nm ho hf cZ hn hx ?_ hk
   simp only[yo,ha,hg,ar,ml,Bool.not_false,bz,hcell]
   exact hs
  ·rename_i hcell
   simp only[aa,ac] at hs
   obtain⟨rfl,rfl⟩:=hs
   obtain⟨b,hv,hb⟩:=KI hE hx hf ha
   obtain⟨eN,gS,cv,T,hh,hl,hc⟩:=FT hf hg hb
   have dc:off<cv.size:=by have:=(ah.1 hcell).1; omega
   have di:=(hc off cv[off] _ (by simp[dc]) hcell).1
   have jL:cv[off] = .slice none 0 0:=by
    generalize cv[off]=c at di
    cases di; rfl
   have da:(execOp a.eval o).run P w = .ok (.value (.slice none 0 0)) w:=by
    have dH:w.cell? ⟨b,off,none⟩=some (.slice none 0 0):=by simp[World.cell?,hh,dc,jL]
    simp[execOp,cZ,hv,Instr.loadAt,Instr.sureAddr,loadVar,GP hn,ml,dH]
   have ru:SR N w G (An (yR vs o.dst) j) (.slice none 0 0) (.list true []):=⟨.nils true,by simp[Room]⟩
   exact yV nm ho hf da ru hk
  ·simp at hs
 ·simp at hs
theorem b9o (hE:EnvOk E N) (nm:Names vs (yk vs ops)) (ho:ops[j]? = some o) (hf:FI N w G st a vs (yk vs ops)) {t e:TypeId} {len size:Nat} {parts:Array (Nat×Operand)} {z:List PV} {ps:List (Nat×PX)}
  (cZ:o.op = .buildSlice t len parts) (hu:P.underlying t=some (.slice e)) (hn:yX P e=some size) (hz:Ac P e=some z) (cY:len*size≤16777216) (hc:EB E vs ops parts.toList=some ps) {cf:yt}
  (hs:yo cf (.mkrow size (zl P e) (if zl P e then .agg z else z.headD .dead) len ps) st=some (u,st1)) (hk:yK N w G a st1 u vs ops j o next):o.wp P a w next Q:=by
 simp only[yo,ab,aj,ac] at hs
 obtain⟨rs,⟨qs,hq,yH⟩,rfl,rfl⟩:=hs
 obtain⟨ds,hR,da⟩:=Ud hE hf cZ hu hn hz cY hc hq yH
 obtain⟨f1,f2⟩:=O4 (size:=size) (xs:=rs) (λx hx=>by
  obtain⟨i,hi⟩:=bj.1 hx
  exact(hR.2 i x hi).1)
 obtain⟨_,_,_,_,fZ,_⟩:=Be hn
 refine IP (mob := .cells ds e) (v := .slice (some ⟨w.heap.size,0,none⟩) rs.length rs.length) nm ho hf da ?_ (λG' hG cX=>KH hf ?_ ?_ hG cX) hk
 ·rintro G' rfl
  refine .rowp _ _ _ _ w.heap.size _ (by simp[GS.more]) (am _) ⟨e,rs.length*size,?_,am _⟩
  simp only[World.shape?,Df,hR.1]
 ·intro k c x rt hx
  rw[aF,ab] at hx
  obtain⟨y,hy,rfl⟩:=hx
  have fe:k<rs.length*size:=by rw[← f1]; exact(ah.1 hy).1
  have hi:k / size<rs.length:=Nat.div_lt_of_lt_mul (by rw[cG]; exact fe)
  have m5:k / size*size+k % size=k:=by rw[cG]; exact Nat.div_add_mod k size
  have hm:k % size<size:=bV _ (by omega)
  obtain⟨r1,r2,r3⟩:=hR.2 (k / size) _ (an hi)
  have gu:=f2 (k / size) _ (an hi) (k % size) hm
  rw[m5,hy] at gu
  have hv:=r3 (k % size) c y (by rw[m5]; exact rt) gu.symm
  have fQ:=r2 y (ax gu.symm)
  refine⟨hv.dem,by cases y<;>simp_all [dem,PV.flat],?_⟩
  rintro es he
  cases y<;>simp[dem] at he
 ·rw[aG,f1,hR.1]
theorem ListR.flats {fix:Nat→Nat→Prop} {hp:Nat→Option Nat} {size:Nat} {news:List Value} {xs:List PV} (h:ListR N w fix hp size news xs) (hs:size≠0):
  news.length=((xs.flatMap PV.cells).map dem).length∧∀(k:Nat) (c:Value) (x:PV),news[k]? = some c→((xs.flatMap PV.cells).map dem)[k]? = some x→VR N w fix hp c x∧x.flat=true∧∀es,x≠.list true es:=by
 obtain⟨h1,h2⟩:=O4 h.sz
 refine⟨by rw[aG,h1,h.len],?_⟩
 intro k c x hc hx
 simp only[aF,ab] at hx
 obtain⟨y,hy,rfl⟩:=hx
 have hk:k<xs.length*size:=by rw[← h1]; exact(ah.1 hy).1
 have hi:k / size<xs.length:=by rw[Nat.div_lt_iff_lt_mul (by omega)]; exact hk
 have hm:k % size<size:=bV _ (by omega)
 have he:k / size*size+k % size=k:=by rw[cG]; exact Nat.div_add_mod k size
 have h3:=h2 (k / size) xs[k / size] (an hi) (k % size) hm
 rw[he,hy] at h3
 refine⟨(h.vr (k / size) _ (an hi) (k % size) c y (by rw[he]; exact hc) h3.symm).dem,?_,?_⟩
 ·rw[GK]
  exact h.flat _ (ak hi) y (ax h3.symm)
 ·intro es e; cases y<;>simp[dem] at e
theorem c1v (y:PV) (es:List PV):dem y≠.list true es:=by intro e; cases y<;>simp[dem] at e
theorem JM {sz:Nat} {agg:Bool} {cs:List PV}:∀{n off:Nat} {es:List PV},Ao sz agg cs n off=some es→es.length=n∧∀(i:Nat) (e:PV),es[i]? = some e→yu sz agg cs (off+i*sz)=some e
 | 0,off,es,h=>by simp[Ao] at h; subst h; simp
 | n + 1, off, es, h => by
   simp only[Ao,aj,ab] at h
   obtain⟨e,h1,es',h2,rfl⟩:=h
   obtain⟨k1,k2⟩:=JM h2
   refine⟨by simp[k1],?_⟩
   intro i x hx
   cases i with
   | zero=>simp at hx; subst hx; simpa using h1
   | succ i =>
     have:=k2 i x (by simpa using hx)
     rw[aS]
     simpa[cF,Nat.add_comm,Nat.add_left_comm] using this
theorem b74 {sz len:Nat} {agg:Bool} {cs es:List PV} (fQ:∀(k:Nat) (y:PV),cs[k]? = some y→y.flat=true) (dj:agg=true∨sz=1) (he:Ao sz agg cs len 0=some es):
  es.length=len∧∀(i:Nat) (e:PV),es[i]? = some e→i*sz+sz≤cs.length∧e.cells.length=sz∧∀(j:Nat) (x:PV),e.cells[j]? = some x→∃y,cs[i*sz+j]? = some y∧x=dem y∧j<sz:=by
 obtain⟨e1,e2⟩:=JM he
 refine⟨e1,?_⟩
 intro i e hi
 have:=e2 i e hi
 rw[aU] at this
 unfold yu at this
 split at this
 ·split at this
  ·rename_i eF
   simp only[aa] at this; subst this
   refine⟨eF,by simp[PV.cells]; omega,?_⟩
   intro j x hx
   simp only[PV.cells,aF,ab] at hx
   obtain⟨y,hy,rfl⟩:=hx
   rw[aY] at hy
   split at hy
   ·rw[bc] at hy
    exact⟨y,hy,rfl,by assumption⟩
   ·simp at hy
  ·simp at this
 ·rename_i iB
  have h1:sz=1:=by rcases dj with h|h; exact absurd h (by simpa using iB); exact h
  subst h1
  split at this
  ·rename_i y hy
   have dc:i*1<cs.length:=(ah.1 hy).1
   have fQ:=fQ _ y hy
   have gb:e=dem y∧y.cells=[y]:=by
    cases y<;>simp_all [cp,dem,PV.cells,PV.flat]
   obtain⟨rfl,_⟩:=gb
   have it:(dem y).cells=[dem y]:=by cases y<;>simp_all [dem,PV.cells,PV.flat]
   refine⟨by omega,by rw[it]; rfl,?_⟩
   intro j x hx
   rw[it] at hx
   cases j with
   | zero=>simp at hx; subst hx; exact⟨y,hy,rfl,by omega⟩
   | succ j=>simp at hx
  ·simp at this
theorem Ux {ts tx e ty:TypeId} {size:Nat} {s x:Operand} {base:Option Addr} (hv:a.eval s = .slice base 0 0) (ed:Src P size tx (a.eval x) 0 [] w) (ft:P.underlying ts=some (.slice e)) {i:TypeInfo} (hi:P.info? e=some i) (dj:i.size=size):
  (Builtin.append_ #[ts,tx] ty #[a.eval s,a.eval x]).run P w = .ok (.slice base 0 0) w:=by
 subst dj
 rw[hv]
 rcases ed.kind with⟨e'',dt⟩|dt<;>cases base <;>
  simp[Builtin.append_,run_underlying ft,run_underlying dt,Go.sizeOf,typeInfo,hi,ed.len,ed.cells,storeCells]
def Eh (n n':Nat):Option Key→Option Key
 | some (.hcell m k)=>some (.hcell (if m=n then n' else m) k)
 | o=>o
theorem Uy {n n':Nat} {o:Option Key}:Eh n n' o=none↔o=none:=by
 unfold Eh; split<;>simp
theorem Uz {n n':Nat} {key:Key} (h:∀k,key≠.hcell n k):Eh n n' (some key)=some key:=by
 unfold Eh
 split
 ·rename_i m k e
  simp only[aa] at e
  subst e
  rw[ae (λe=>h k (by rw[e]))]
 ·rfl
theorem UA (n n' k:Nat):Eh n n' (some (.hcell n k))=some (.hcell n' k):=by simp[Eh]
theorem Room.ren {w w':World} {G G':GS} {n n' k:Nat} {v:Value} {es:List PV} (h:Room w G (.hcell n k) v es) (ho:∀b,G.ow b=some (.hcell n k)→G'.ow b=some (.hcell n' k)∧w'.heap[b]? = w.heap[b]?∧∀o,G'.fix b o→G.fix b o):Room w' G' (.hcell n' k) v es:=by
 unfold Room at *
 split at h
 ·rename_i a len cap
  rcases h with h|⟨h0,sz,cs,T,h1,h2,h3,h4,h5⟩
  ·exact .inl h
  ·obtain⟨k1,k2,k3⟩:=ho _ h0
   exact .inr ⟨k1,sz,cs,T,h1,h2.same k2,h3,h4,λo gj hf=>h5 o gj (k3 o hf)⟩
 ·trivial
theorem CR.pure {N:Nm} {w:World} {G:GS} {key:Key} {v:Value} {p:PV} (h:VR N w G.fix G.heap v p∧p.flat=true∧∀es,p≠.list true es):CR N w G key v p:=by
 refine⟨h.1,h.2.1,?_⟩
 split
 ·exact absurd rfl (h.2.2 _)
 ·trivial
theorem UB (nm:Names vs (yk vs ops)) (ho:ops[j]? = some o) (hf:FI N w G st a vs (yk vs ops)) {heap1:List PObj} (iw:HR N w G heap1) (lX:heap1.length=st.heap.length) {v:Value} {CS:Array Value} {e:TypeId} {ps:List PV} {sz len cap:Nat} {agg:Bool} (n0:Nat) (eY:n0<heap1.length→heap1[n0]? = some .gone)
  (da:(execOp a.eval o).run P w = .ok (.value (.slice (some ⟨w.heap.size,0,none⟩) len cap)) (w.drew.alloc (.cells CS e))) (dl:len≤cap) (uH:CS.size=cap*sz) (ey:ps.length≤CS.size)
  (hR:∀(k:Nat) (c:Value) (x:PV),CS[k]? = some c→ps[k]? = some x→CR N w G (.hcell n0 k) c x)
  (hk:yK N w G a { st with heap:=heap1++[.cells ps] } (.rowp st.heap.length sz agg len) vs ops j o next):o.wp P a w next Q:=by
 unfold Oper.wp
 rw[da]
 let w':World:=w.drew.alloc (.cells CS e)
 let G':GS:={ G with ow:=λx=>if x=w.heap.size then some (.hobj st.heap.length) else Eh n0 st.heap.length (G.ow x),heap:=λm=>if m=st.heap.length then some w.heap.size else G.heap m }
 have cX:Ext w G w' G':=by
  refine⟨rfl,rfl,rfl,by simp[w'],λb hb _=>AF (w:=w.drew) hb,λb o h=>⟨h,E9 (w:=w.drew) (hf.fixlt _ _ h)⟩,λ_ _ h => .inl h,?_,?_,.same λk hk=>AF (w:=w.drew) hk,rfl⟩
  ·intro b hb
   by_cases dc:b<w.heap.size
   ·refine .inr ?_
    simp only[G'] at hb
    rw[ae (by omega)] at hb
    exact λh=>hb (Uy.2 h)
   ·exact .inl (by omega)
  ·intro n b h
   have:=hf.hdom _ _ h
   simp only[G']
   rw[ae (by omega)]; exact h
 have db:zu (λkey=>∃k,key = .hcell n0 k) w G w' G':=by
  refine⟨?_,λ_ _ h=>h⟩
  intro b k hb iI
  have dc:=hf.owlt _ _ hb
  refine⟨?_,AF (w:=w.drew) dc,λ_ h=>h⟩
  simp only[G']
  rw[ae (by omega),hb]; exact Uz λi e=>iI ⟨i,e⟩
 have hobj:ObjR N w' G' st.heap.length w.heap.size (.cells ps):=by
  refine⟨λo h=>by have:=hf.fixlt _ _ h; omega,CS,e,Df (w:=w.drew),ey,?_⟩
  intro k c x hc hx
  obtain⟨h1,h2,h3⟩:=hR k c x hc hx
  refine⟨h1.ext cX,h2,?_⟩
  split
  ·refine Room.ren h3 λb hb =>?_
   have dc:=hf.owlt _ _ hb
   refine⟨?_,AF (w:=w.drew) dc,λ_ h=>h⟩
   simp only[G']
   rw[ae (by omega),hb]; exact UA _ _ _
  ·trivial
 have dD:FI N w' G' { st with heap:=heap1++[.cells ps] } a vs (yk vs ops):=by
  refine⟨hf.len,λi t u h1 h2=>(hf.var i t u h1 h2).keep cX db (by simp) (by simp),λj t u h1 h2=>(hf.loc j t u h1 h2).keep cX db (by simp) (by simp),hf.tv,hf.tl,(hf.defers.trans cX.df.symm),hf.gen,?_,?_,?_,?_⟩
  ·intro b k hb
   simp only[G'] at hb
   split at hb
   ·simp[w']; omega
   ·cases hx:G.ow b with
    | none=>rw[hx] at hb; simp[Eh] at hb
    | some y=>have:=hf.owlt _ _ hx; simp[w']; omega
  ·intro b o h
   have:=hf.fixlt _ _ h; simp[w']; omega
  ·refine iw.push cX db (λn k hn =>?_) (.inr ⟨w.heap.size,by simp[G',lX],by simp[G',lX],by rw[lX]; exact hobj⟩)
   by_cases e:n=n0
   ·subst e; exact .inl (eY hn)
   ·exact .inr ⟨by simp,by simpa using e⟩
  ·intro n b h
   simp only[G'] at h
   split at h
   ·simp; omega
   ·have:=hf.hdom _ _ h; simp; omega
 refine hk _ w' G' (dD.put nm (BH ho) (SR.of_pure (.rowp _ _ _ _ w.heap.size cap (by simp[G']) dl ⟨e,cap*sz,?_,am _⟩) rfl)) cX (BJ _ _ _)
 have h1:w'.heap[w.heap.size]? = some (.cells CS e):=Df (w:=w.drew)
 simp only[World.shape?,h1,uH]
theorem c1w (hE:EnvOk E N) (nm:Names vs (yk vs ops)) (ho:ops[j]? = some o) (hf:FI N w G st a vs (yk vs ops)) {ts tx e e':TypeId} {size:Nat} {z:List PV} {s x:Operand} {ps px:PX}
  (cZ:o.op = .call { callee := .builtin .append,args := #[s,x],argTypes := #[ts,tx] }) (ft:P.underlying ts=some (.slice e)) (iA:P.underlying tx=some (.slice e')) (hn:yX P e=some size) (hz:Ac P e=some z)
  (kP:cx E vs ops s=some ps) (hx:cx E vs ops x=some px) {cf:yt} (hs:yo cf (.happ size (zl P e) (P.bytesOf e) ps px) st=some (u,st1)) (hk:yK N w G a st1 u vs ops j o next):o.wp P a w next Q:=by
 obtain⟨i,d,hi,gP,fZ,hd⟩:=Be hn
 obtain⟨i2,zv,ez,j5,_,kD,gG,_⟩:=Ef (N:=N) (w:=w) (fix:=G.fix) (hp:=G.heap) hz
 have:i2=i:=by rw[hi] at ez; simpa using ez.symm
 subst this
 subst gP
 have iq:zv.cells.size=i2.size:=by have:=gG.1; simp at this; omega
 have ie:P.bytesOf e=i2.bytes:=by simp[Program.bytesOf,hi]
 have iE:∀v w',(Builtin.append_ #[ts,tx] o.type #[a.eval s,a.eval x]).run P w = .ok v w'→(execOp a.eval o).run P w = .ok (.value v) w':=by
  intro v w' hr
  simp[execOp,cZ,resolve,invoke,builtin,hr]
 have src:∀{xs:List PV},b2G st px=some xs→zj i2.size xs=true→∃news,ListR N w G.fix G.heap i2.size news xs∧Src P i2.size tx (a.eval x) xs.length news w:=by
  intro xs eu hh
  unfold b2G at eu
  split at eu
  ·rename_i n sz agg len mO
   split at eu
   ·rename_i ml
    simp only[aj] at eu
    obtain⟨cs,hg,fI⟩:=eu
    have jc:=(yT hE hx hf mO).1
    generalize hv:a.eval x=v at jc
    cases jc with
    | rowp _ _ _ _ b cap hb dl ep =>
      obtain⟨eN,gS,cv,T,yg,hl,jE⟩:=FT hf hg hb
      have fQ:∀(k:Nat) (y:PV),cs[k]? = some y→y.flat=true:=λk y hy=>by
       have dc:k<cv.size:=by have:=(ah.1 hy).1; omega
       exact(jE k cv[k] y (by simp[dc]) hy).2.1
      obtain⟨e1,e2⟩:=b74 fQ ml fI
      by_cases gF:xs=[]
      ·subst gF
       simp only[bq] at e1
       subst e1
       exact⟨[],⟨by simp,by simp,by simp,by simp⟩,Src.ofSlice w iA ⟨b,0,none⟩ 0 cap [] (by simp) (by simp) (by simp)⟩
      ·have dj:sz=i2.size:=by
        cases xs with
        | nil=>exact absurd rfl gF
        | cons y ys =>
          have h1:=(e2 0 y rfl).2.1
          simp[zj] at hh
          omega
       subst dj
       have dB:0<xs.length:=bK.2 gF
       have ga:=(e2 (xs.length - 1) (xs[xs.length - 1]'(by omega)) (an (by omega))).1
       have fT:xs.length*i2.size≤cs.length:=by
        have:xs.length=(xs.length - 1)+1:=by omega
        rw[this,aS,Nat.one_mul]; exact ga
       let news:=cv.toList.take (xs.length*i2.size)
       have fA:news.length=xs.length*i2.size:=by simp only[news,ba,bu]; omega
       have ol:∀(k:Nat) (u:Value),news[k]? = some u→cv[k]? = some u:=by
        intro k u hu
        simp only[news,aY] at hu
        split at hu
        ·simpa using hu
        ·simp at hu
       have hL:ListR N w G.fix G.heap i2.size news xs:=by
        refine⟨fA,?_,?_,?_⟩
        ·intro e he
         obtain⟨i,hi⟩:=bj.1 he
         exact(e2 i e hi).2.1
        ·intro e he y hy
         obtain⟨i,hi⟩:=bj.1 he
         obtain⟨j,hj⟩:=bj.1 hy
         obtain⟨z,hz,rfl,_⟩:=(e2 i e hi).2.2 j y hj
         rw[GK]; exact fQ _ z hz
        ·intro i e hi k c y hc hy
         obtain⟨z,hz,rfl,_⟩:=(e2 i e hi).2.2 k y hy
         exact(jE _ c z (ol _ _ hc) hz).1.dem
       refine⟨news,hL,?_⟩
       rw[← e1]
       exact Src.ofSlice w iA ⟨b,0,none⟩ xs.length cap news fA (λj u hu=>by
        rw[B9]
        have:=ol j u hu
        simp only[World.cell?,yg,aU]
        simpa using this) (hL.one fZ)
   ·simp at eu
  rotate_left
  ·simp at eu
  rename_i p0 _ mO
  have gX:=eu
  clear eu
  have jc:=(yT hE hx hf mO).1.row gX
  obtain⟨news,f0,rt⟩:=OQ jc hh
  refine⟨news,f0,?_⟩
  rcases rt with⟨h1,h2,h3⟩|⟨ad,cap,h1,h2,h3⟩|⟨b,off,cap,h1,h2,h3⟩
  ·rw[h1,h2,h3]; exact Src.ofNil w iA 0
  ·rw[h1,h2,h3]; exact Src.ofSlice w iA ad 0 cap [] (by simp) (by simp) (by simp)
  ·rw[h1]
   exact Src.ofSlice w iA ⟨b,off,none⟩ xs.length cap news f0.len (λj u hu=>by rw[B9]; exact(h3 j u hu).1) (f0.one fZ)
 have grow:∀(n0:Nat) {heap1:List PObj} {xs oldps:List PV} {news olds:List Value} {base:Option Addr} {len cap:Nat},(n0<heap1.length→heap1[n0]? = some .gone)→HR N w G heap1→heap1.length=st.heap.length→ListR N w G.fix G.heap i2.size news xs→Src P i2.size tx (a.eval x) xs.length news w→a.eval s = .slice base len cap →
   (Builtin.firstCells i2.size len (.slice base len cap)).run P w.drew = .ok olds.toArray w.drew→olds.length=len*i2.size→oldps.length=olds.length→(∀(k:Nat) (c:Value) (y:PV),olds[k]? = some c→oldps[k]? = some y→CR N w G (.hcell n0 k) c y) →
   cap<len+xs.length→len+xs.length≤2147483648→i2.bytes≤16384 →
   yK N w G a { st with heap:=heap1++[.cells (oldps++(xs.flatMap PV.cells).map dem)] } (.rowp st.heap.length i2.size (zl P e) (len+xs.length)) vs ops j o next→o.wp P a w next Q:=by
  intro n0 heap1 xs oldps news olds base len cap eY iw ei f0 ed hv iF jk oZ yh dl eP dK hk
  have fj:(len+xs.length)*i2.bytes≤140737488355328:=aH (Nat.mul_le_mul eP dK) (by decide)
  have da:=run_append_grow_src (P:=P) w ts tx o.type e i2 zv ft hi j5 base len cap olds iF (a.eval x) xs.length news ed dl (by omega) (growslice_fits dl fj)
  rw[← hv] at da
  obtain⟨fQ,uR⟩:=f0.flats fZ
  have ju:=grownCap_ge w (len+xs.length) cap e
  refine UB (v:=undef) (sz:=i2.size) (cap:=grownCap w (len+xs.length) cap e) nm ho hf iw ei n0 eY (iE _ _ da) ju ?_ ?_ ?_ hk
  ·simp only[b8,cr,size_zeroCells,iq,jk,f0.len,ao]
   rw[Nat.sub_mul,aS]
   have:(len+xs.length)*i2.size≤grownCap w (len+xs.length) cap e*i2.size:=bw _ ju
   rw[aS] at this
   omega
  ·simp only[b8,cr,ao,oZ]
   omega
  ·intro k c y hc hy
   by_cases fm:k<olds.length
   ·rw[al (by omega)] at hy
    rw[bp (by simp; omega)] at hc
    simp only[b7] at hc
    rw[al fm] at hc
    exact yh k c y hc hy
   ·rw[aq (by omega)] at hy
    have dc:k - olds.length<news.length:=by
     rw[fQ,← oZ]; exact(ah.1 hy).1
    rw[bp (by simp; omega)] at hc
    simp only[b7] at hc
    rw[aq (by omega)] at hc
    rw[oZ] at hy
    exact CR.pure (uR _ c y hc hy)
 simp only[yo] at hs
 rw[ie] at hs
 split at hs
 ·rename_i xs n sz ag len eu gN
  split at hs
  ·rename_i cs dU
   split at hs
   ·rename_i hc
    obtain⟨rfl,rfl,dH,fX,eP,dK⟩:=hc
    simp only[aa,ac] at hs
    obtain⟨rfl,rfl⟩:=hs
    obtain⟨news,f0,ed⟩:=src eu fX
    have iU:=((Ed hE kP hf gN).read (r := .rowp n i2.size (zl P e) len) rfl).1
    generalize hv:a.eval s=v at iU
    cases iU with
    | rowp _ _ _ _ b cap hb dl ep =>
      obtain⟨T',m,ry,uS⟩:=ep
      obtain⟨eN,gS,cv,T,hh,hl,jE⟩:=FT hf (show yN st n=some cs by simp[yN,dU]) hb
      have hm:m=cv.size:=by simp only[World.shape?,hh,aa,ac] at ry; exact ry.2.symm
      subst hm
      have km:=dH
      obtain⟨O,hO⟩:∃O,cs.take (len*i2.size)=O:=⟨_,rfl⟩
      rw[hO] at hk
      have dH:O.length=len*i2.size:=by rw[← hO]; simp; omega
      have nB:∀(k:Nat) (c:Value) (y:PV),(cv.toList.take (len*i2.size))[k]? = some c→O[k]? = some y→CR N w G (.hcell n k) c y:=by
       intro k c y hc hy
       rw[← hO,aY] at hy
       rw[aY] at hc
       split at hc
       ·rw[af (by assumption)] at hy
        exact jE k c y (by simpa using hc) hy
       ·simp at hc
      have jk:(cv.toList.take (len*i2.size)).length=len*i2.size:=by simp; omega
      have dG:∀(k:Nat) (u:Value),(cv.toList.take (len*i2.size))[k]? = some u→w.cell? ⟨b,0+k,none⟩=some u:=by
       intro k u hu
       rw[aY] at hu
       split at hu
       ·simp only[World.cell?,hh,aU]; simpa using hu
       ·simp at hu
      by_cases j6:cap<len+xs.length
      ·refine grow n (heap1:=st.heap.set n .gone) (λh=>av (by simpa using h)) ?_ (by simp) f0 ed hv (olds:=cv.toList.take (len*i2.size)) ?_ jk (by rw[dH,jk]) nB j6 eP dK hk
       ·exact hf.heap.keepBut (K:=λ_=>False) (Ext.refl _ _) ⟨λ_ _ h _=>⟨h,rfl,λ_ h=>h⟩,λ_ _ h=>h⟩ (λ_ _ _=>⟨λh=>h,λh=>h⟩) (λ_ => .inl rfl)
       ·exact run_firstCells_some w.drew _ _ _ _ _ _ jk (λk u hu=>by rw[B9]; exact dG k u hu)
      ·
       have eF:len+xs.length≤cap:=by omega
       obtain⟨fQ,uR⟩:=f0.flats fZ
       have iC:len*i2.size+news.length≤cv.size:=by
        rw[f0.len]
        have:(len+xs.length)*i2.size≤cap*i2.size:=bw _ eF
        rw[aS] at this; omega
       let NR:Array Value:=(cv.toList.take (len*i2.size)++news++cv.toList.drop (len*i2.size+news.length)).toArray
       have kE:NR.size=cv.size:=by simp only[NR,cr,ao,ba,cm,bu]; omega
       have da:(Builtin.append_ #[ts,tx] o.type #[a.eval s,a.eval x]).run P w = .ok (.slice (some ⟨b,0,none⟩) (len+xs.length) cap) (w.setRow b NR):=by
        have dz:=KD P b (len*i2.size) T (0,0) news 0 cv w hh (λo _ h=>by simp at h) (by simpa using iC) (f0.one fZ)
        simp only[bx] at dz
        rw[hv]
        rcases ed.kind with⟨e'',dt⟩|dt <;>
         simp[Builtin.append_,run_underlying ft,run_underlying dt,Go.sizeOf,typeInfo,hi,ed.len,eF,ed.cells,B9,dz,NR]
       have fK:b<w.heap.size:=hf.owlt _ _ eN
       have du:∀x,x≠b→(w.setRow b NR).heap[x]? = w.heap[x]? := λx hx=>setRow_other w b x _ hx
       let G':GS:={ G with heap:=λm=>if m=st.heap.length then some b else G.heap m,ow:=λx=>if x=b then some (.hobj st.heap.length) else Eh n st.heap.length (G.ow x) }
       have cX:Ext w G (w.setRow b NR) G':=by
        refine⟨rfl,rfl,rfl,by simp[World.setRow],?_,?_,λ_ _ h => .inl h,?_,?_,IN hh _ kE,rfl⟩
        ·intro y _ kl
         exact du y (by rintro rfl; rw[eN] at kl; simp at kl)
        ·intro y o' gB
         have j7:y≠b:=by rintro rfl; exact gS _ gB
         exact⟨gB,by simp only[World.cell?,du y j7]⟩
        ·intro y hy
         simp only[G'] at hy
         split at hy
         ·rename_i j7; exact .inr (by rw[j7,eN]; simp)
         ·exact .inr λh=>hy (Uy.2 h)
        ·intro m y hy
         have:=hf.hdom _ _ hy
         simp only[G']
         rw[ae (by omega)]; exact hy
       have db:zu (λk=>k = .hobj n∨∃i,k = .hcell n i) w G (w.setRow b NR) G':=by
        refine⟨?_,λ_ _ h=>h⟩
        intro y k hy iI
        have j7:y≠b:=by rintro rfl; rw[eN] at hy; simp at hy; exact iI (.inl hy.symm)
        refine⟨?_,du y j7,λ_ h=>h⟩
        simp only[G']; rw[ae j7,hy]; exact Uz λi e=>iI (.inr ⟨i,e⟩)
       have jy:n<st.heap.length:=(ah.1 dU).1
       have eo:HR N (w.setRow b NR) G' (st.heap.set n .gone++[.cells (O++(xs.flatMap PV.cells).map dem)]):=by
        refine⟨?_,hf.heap.2.ext cX⟩
        intro m ob hm
        by_cases kL:m<(st.heap.set n .gone).length
        ·rw[al kL,aO] at hm
         split at hm
         ·exact .inl (by simpa[jy] using hm.symm)
         ·rename_i dh
          rcases hf.heap.1 m ob hm with rfl|⟨y,h1,h2,h3⟩
          ·exact .inl rfl
          ·exact .inr ⟨y,cX.heap _ _ h1,(db.1 _ _ h2 (by simp; omega)).1,h3.keep h2 cX db (by simp; omega) (by simp; omega)⟩
        ·rw[aq (by omega)] at hm
         simp only[aZ] at hm kL
         have jl:m - st.heap.length=0:=by
          cases hx:m - st.heap.length with
          | zero=>rfl
          | succ k=>rw[hx] at hm; simp at hm
         rw[jl] at hm
         simp at hm
         subst hm
         have kT:m=st.heap.length:=by omega
         subst kT
         refine .inr ⟨b,by simp[G'],by simp[G'],λo' h=>gS o' h,NR,T,setRow_heap w b cv NR T (0,0) hh,?_,?_⟩
         ·simp only[ao]
          rw[← fQ,dH,kE]; exact iC
         ·intro k c y hc hy
          have fc:CR N w G (.hcell n k) c y:=by
           simp only[NR,b7,aI] at hc
           by_cases fm:k<len*i2.size
           ·rw[al (by rw[dH]; exact fm)] at hy
            rw[al (by rw[jk]; exact fm)] at hc
            exact nB k c y hc hy
           ·rw[aq (by rw[dH]; omega),dH] at hy
            have dc:k - len*i2.size<news.length:=by rw[fQ]; exact(ah.1 hy).1
            rw[aq (by rw[jk]; omega),jk,al dc] at hc
            exact CR.pure (uR _ c y hc hy)
          refine⟨fc.1.ext cX,fc.2.1,?_⟩
          have dJ:=fc.2.2
          split at dJ
          ·refine Room.ren dJ λx hx =>?_
           have gR:x≠b:=by rintro rfl; rw[eN] at hx; simp at hx
           refine⟨?_,du x gR,λ_ h=>h⟩
           simp only[G']; rw[ae gR,hx]; exact UA _ _ _
          ·trivial
       unfold Oper.wp
       rw[iE _ _ da]
       have dD:FI N (w.setRow b NR) G' { st with heap:=st.heap.set n .gone++[.cells (O++(xs.flatMap PV.cells).map dem)] } a vs (yk vs ops):=by
        refine⟨hf.len,λi t u h1 h2=>(hf.var i t u h1 h2).keep cX db (by simp) (by simp),λj t u h1 h2=>(hf.loc j t u h1 h2).keep cX db (by simp) (by simp),hf.tv,hf.tl,hf.defers,hf.gen,?_,?_,eo,?_⟩
        ·intro y k hy
         simp only[G'] at hy
         split at hy
         ·rename_i j7; simp[World.setRow,j7,fK]
         ·cases hx:G.ow y with
          | none=>rw[hx] at hy; simp[Eh] at hy
          | some z=>have:=hf.owlt _ _ hx; simpa[World.setRow] using this
        ·intro y o' h; have:=hf.fixlt _ _ h; simpa[World.setRow] using this
        ·intro m y hy
         simp only[G'] at hy
         split at hy
         ·simp; omega
         ·have:=hf.hdom _ _ hy; simp; omega
       refine hk _ _ G' (dD.put nm (BH ho) (SR.of_pure (.rowp _ _ _ _ b cap (by simp[G']) eF ⟨T,cv.size,?_,uS⟩) rfl)) cX (BJ _ _ _)
       simp only[World.shape?,setRow_heap w b cv NR T (0,0) hh,kE]
   ·simp at hs
  ·simp at hs
 ·rename_i xs eu gN
  have ru:=Ed hE kP hf gN
  obtain⟨di,dJ⟩:VR N w G.fix G.heap (a.eval s) (.list true [])∧Room w G (Bn ps) (a.eval s) []:=ru
  have dE:∃base,a.eval s = .slice base 0 0:=by
   generalize a.eval s=v at di dJ
   cases di with
   | nils=>exact⟨none,rfl⟩
   | void _ ad cap =>
     rcases dJ with h|⟨_,_,_,_,_,_,_,h,_⟩
     ·subst h; exact⟨_,rfl⟩
     ·simp at h
   | list _ b off len cap sz _ cv cY dl _ _ _ _ =>
     simp at cY; subst cY
     rcases dJ with h|⟨_,_,_,_,_,_,_,h,_⟩
     ·subst h; exact⟨_,rfl⟩
     ·simp at h
  obtain⟨base,hv⟩:=dE
  split at hs
  ·rename_i gF
   subst gF
   simp only[aa,ac] at hs
   obtain⟨rfl,rfl⟩:=hs
   obtain⟨news,f0,ed⟩:=src eu rfl
   have eY:news=[]:=bD.1 (by rw[f0.len]; simp)
   subst eY
   refine yV nm ho hf (iE _ _ (Ux hv ed ft hi rfl)) ?_ hk
   cases base with
   | none=>exact⟨.nils true,True.intro⟩
   | some ad=>exact⟨.void true ad 0,.inl rfl⟩
  ·rename_i gF
   split at hs
   ·rename_i hc
    obtain⟨fX,eP,dK⟩:=hc
    simp only[aa,ac] at hs
    obtain⟨rfl,rfl⟩:=hs
    obtain⟨news,f0,ed⟩:=src eu fX
    have dB:0<xs.length:=bK.2 gF
    have iF:(Builtin.firstCells i2.size 0 (.slice base 0 0)).run P w.drew = .ok ([]:List Value).toArray w.drew:=by
     cases base with
     | none=>exact run_firstCells_none w.drew _ _ _ _
     | some ad=>exact run_firstCells_some w.drew _ _ _ _ _ [] (by simp) (by simp)
    refine grow st.heap.length (heap1:=st.heap) (oldps:=[]) (λh=>absurd h (Nat.lt_irrefl _)) hf.heap rfl f0 ed hv iF (by simp) rfl (by simp) (by omega) (by omega) dK ?_
    simpa using hk
   ·simp at hs
 ·rename_i xs eu gN
  have di:VR N w G.fix G.heap (a.eval s) .nils:=((Ed hE kP hf gN).read (r := .nils) rfl).1
  have hv:a.eval s = .slice none 0 0:=by
   generalize a.eval s=v at di
   cases di with
   | nils'=>rfl
  split at hs
  ·rename_i gF
   subst gF
   simp only[aa,ac] at hs
   obtain⟨rfl,rfl⟩:=hs
   obtain⟨news,f0,ed⟩:=src eu rfl
   have eY:news=[]:=bD.1 (by rw[f0.len]; simp)
   subst eY
   exact yV nm ho hf (iE _ _ (Ux hv ed ft hi rfl)) (SR.of_pure .nils' rfl) hk
  ·rename_i gF
   split at hs
   ·rename_i hc
    obtain⟨fX,eP,dK⟩:=hc
    simp only[aa,ac] at hs
    obtain⟨rfl,rfl⟩:=hs
    obtain⟨news,f0,ed⟩:=src eu fX
    have dB:0<xs.length:=bK.2 gF
    refine grow st.heap.length (heap1:=st.heap) (oldps:=[]) (λh=>absurd h (Nat.lt_irrefl _)) hf.heap rfl f0 ed hv (run_firstCells_none w.drew _ _ _ _) (by simp) rfl (by simp) (by omega) (by omega) dK ?_
    simpa using hk
   ·simp at hs
 ·simp at hs
theorem b2s (w:World) (ts tx ty e:TypeId) (i:TypeInfo) (zv:Value) {k0:IntKind} (ft:P.underlying ts=some (.slice e)) (iA:P.underlying tx=some (.int k0)) (hi:P.info? e=some i) (hz:i.zero=some zv) (k:IntKind) (n:Nat)
  (h0:0<n) (hn:n≤2147483648) (hb:i.bytes≤16384):
  (Builtin.append_ #[ts,tx] ty #[.slice none 0 0,.int k n]).run P w = .ok (.slice (some ⟨w.heap.size,0,none⟩) n (grownCap w n 0 e))
   (w.drew.alloc (.cells ((if n*i.size=0 then #[] else Builtin.zeroCells zv.cells n)++Builtin.zeroCells zv.cells (grownCap w n 0 e - n)) e)):=by
 have fj:n*i.bytes≤140737488355328:=aH (Nat.mul_le_mul hn hb) (by decide)
 have iC:=growslice_fits (need:=n) (old:=0) (bytes:=i.bytes) h0 fj
 have nC:¬(281474976710656<Builtin.nextslicecap n 0*i.bytes):=by omega
 have hw:IntKind.i64.wrap (n:Int)=n:=by
  show (if (true&&decide ((n:Int) % 18446744073709551616≥9223372036854775808))=true then(n:Int) % 18446744073709551616 - 18446744073709551616 else(n:Int) % 18446744073709551616)=_
  simp only[cy,ay]
  split<;>omega
 have h1:¬((n:Int)<0):=by omega
 have h2:¬((281474976710656:Int)<(n:Int)*(i.bytes:Int)):=by
  have:((n*i.bytes:Nat):Int)≤140737488355328:=Int.ofNat_le.2 fj
  rw[Int.natCast_mul] at this
  omega
 have h3:¬((9223372036854775807:Int)<(n:Int)):=by omega
 have h4:¬(n=0):=by omega
 by_cases dj:n*i.size=0
 ·simp[Builtin.append_,run_underlying ft,run_underlying iA,Go.sizeOf,typeInfo,zeroValue,hi,hz,asInt,asIntOf,hw,h1,h2,h3,h4,nC,Question.forced,newRow,grownCap,Builtin.firstCells,dj]
 ·simp[Builtin.append_,run_underlying ft,run_underlying iA,Go.sizeOf,typeInfo,zeroValue,hi,hz,asInt,asIntOf,hw,h1,h2,h3,h4,nC,Question.forced,newRow,grownCap,Builtin.firstCells,dj]
theorem b9p (hE:EnvOk E N) (nm:Names vs (yk vs ops)) (ho:ops[j]? = some o) (hf:FI N w G st a vs (yk vs ops)) {ts tx e:TypeId} {k0:IntKind} {size:Nat} {z:List PV} {s x:Operand} {ps px:PX}
  (cZ:o.op = .call { callee := .builtin .append,args := #[s,x],argTypes := #[ts,tx] }) (ft:P.underlying ts=some (.slice e)) (iA:P.underlying tx=some (.int k0)) (hn:yX P e=some size) (hz:Ac P e=some z)
  (kP:cx E vs ops s=some ps) (hx:cx E vs ops x=some px) {cf:yt} (hs:yo cf (.happz size (zl P e) (P.bytesOf e) z ps px) st=some (u,st1)) (hk:yK N w G a st1 u vs ops j o next):o.wp P a w next Q:=by
 obtain⟨i,d,hi,gP,fZ,hd⟩:=Be hn
 obtain⟨i2,zv,ez,j5,_,kD,gG,_⟩:=Ef (N:=N) (w:=w) (fix:=G.fix) (hp:=G.heap) hz
 have:i2=i:=by rw[hi] at ez; simpa using ez.symm
 subst this
 subst gP
 have iq:zv.cells.size=i2.size:=by have:=gG.1; simp at this; omega
 have gk:z.length=i2.size:=by have:=gG.1; simp at this; omega
 have ie:P.bytesOf e=i2.bytes:=by simp[Program.bytesOf,hi]
 simp only[yo] at hs
 rw[ie] at hs
 split at hs
 ·rename_i n eY r7
  split at hs
  ·rename_i hc
   obtain⟨h0,h1,hb⟩:=hc
   simp only[aa,ac] at hs
   obtain⟨rfl,rfl⟩:=hs
   obtain⟨k,hl⟩:=EF hE hx hf eY
   have hv:a.eval s = .slice none 0 0:=by
    have:=(yT hE kP hf r7).1
    generalize a.eval s=v at this
    cases this
    rfl
   obtain⟨m,rfl⟩:∃m:Nat,n=m:=⟨n.toNat,by omega⟩
   have da:=b2s (P:=P) w ts tx o.type e i2 zv ft iA hi j5 k m (by omega) (by omega) hb
   rw[← hv,← hl] at da
   have nD:(execOp a.eval o).run P w = .ok (.value (.slice (some ⟨w.heap.size,0,none⟩) m (grownCap w m 0 e))) (w.drew.alloc (.cells ((if m*i2.size=0 then #[] else Builtin.zeroCells zv.cells m)++Builtin.zeroCells zv.cells (grownCap w m 0 e - m)) e)):=by
    simp[execOp,cZ,resolve,invoke,builtin,da]
   have dB:¬m*i2.size=0:=by
    intro h
    rcases Nat.mul_eq_zero.1 h with h|h<;>omega
   rw[ae dB] at nD
   have ju:=grownCap_ge w m 0 e
   refine UB (v:=undef) (sz:=i2.size) (cap:=grownCap w m 0 e) nm ho hf hf.heap rfl st.heap.length (λh=>absurd h (Nat.lt_irrefl _)) nD ju ?_ ?_ ?_ hk
   ·simp only[b8,size_zeroCells,iq]
    rw[Nat.sub_mul]
    have:m*i2.size≤grownCap w m 0 e*i2.size:=bw _ ju
    omega
   ·simp[List.length_flatten,gk,size_zeroCells,iq]
   ·intro k c y hc hy
    simp only[Int.toNat_natCast] at hy
    rw[KM,aG,gk] at hy
    split at hy
    ·rename_i dc
     rw[bp (by rw[size_zeroCells,iq]; exact dc)] at hc
     have jb:k % i2.size<i2.size:=bV _ (by omega)
     have gU:c=zv.cells[k % i2.size]! := by
      simp only[Builtin.zeroCells,bU,ab] at hc
      obtain⟨a',ha,rfl⟩:=hc
      have:a'=k:=by
       obtain⟨h1,h2⟩:=aX.1 ha
       simpa using h2.symm
      rw[this,iq]
     have nA:zv.cells[k % i2.size]? = some c:=by
      rw[gU]
      have:k % i2.size<zv.cells.size:=by omega
      simp[this]
     simp only[aF,ab] at hy
     obtain⟨y0,hy,rfl⟩:=hy
     exact CR.pure ⟨(gG.2.2 _ c y0 (by simpa using nA) hy).dem,by rw[GK]; exact gG.2.1 y0 (ax hy),c1v y0⟩
    ·simp at hy
  ·simp at hs
 ·simp at hs
theorem b9q (hE:EnvOk E N) (nm:Names vs (yk vs ops)) (ho:ops[j]? = some o) (hf:FI N w G st a vs (yk vs ops)) {t e:TypeId} {rest:List TypeId} {size:Nat} {z:List PV} {x:Operand} {px:PX} (eL:o.dst=none)
  (cZ:o.op = .call { callee := .builtin .clear,args := #[x],argTypes:=⟨t::rest⟩ }) (hu:P.underlying t=some (.slice e)) (hn:yX P e=some size) (hz:Ac P e=some z)
  (hx:cx E vs ops x=some px) {cf:yt} (hs:yo cf (.clear size px) st=some (u,st1)) (hk:yK N w G a st1 u vs ops j o next):o.wp P a w next Q:=by
 obtain⟨i,d,hi,gP,fZ,hd⟩:=Be hn
 obtain⟨i2,zv,ez,j5,_,kD,gG,_⟩:=Ef (N:=N) (w:=w) (fix:=G.fix) (hp:=G.heap) hz
 have:i2=i:=by rw[hi] at ez; simpa using ez.symm
 subst this
 subst gP
 have iq:zv.cells.size=i2.size:=by have:=gG.1; simp at this; omega
 simp only[yo] at hs
 split at hs
 ·rename_i n sz off yi
  split at hs
  ·rename_i cs dU
   split at hs
   ·rename_i hc
    obtain⟨rfl,gj⟩:=hc
    simp only[aa,ac] at hs
    obtain⟨rfl,rfl⟩:=hs
    obtain⟨agg,len,jc⟩:∃agg len,VR N w G.fix G.heap (a.eval x) (.rows n i2.size agg off len):=by
     obtain⟨p,hr,hp⟩:=aj.1 yi
     have jc:=(yT hE hx hf hr).1
     cases p<;>simp only[G6,aa,ac,reduceCtorEq] at hp
     ·rename_i n' sz' ag ln
      obtain⟨rfl,rfl,rfl⟩:=hp
      generalize a.eval x=v at jc ⊢
      cases jc with
      | rowp _ _ _ _ b cap h dl ep =>
        obtain⟨T,m,h1,h2⟩:=ep
        exact⟨ag,ln,.rows _ _ _ 0 _ b 0 cap m T h dl (.inr (by simp)) h1 (by rw[aU]; exact aH (bw _ dl) h2)⟩
     ·obtain⟨rfl,rfl,rfl⟩:=hp
      exact⟨_,_,jc⟩
    generalize hv:a.eval x=v at jc
    cases jc with
    | rows _ _ _ _ _ b o' cap m T hb dl sb ep hm =>
      obtain⟨eN,gS,cv,T',hh,hl,jE⟩:=FT hf (show yN st n=some cs by simp[yN,dU]) hb
      have oY:m=cv.size:=by simp only[World.shape?,hh,aa,ac] at ep; exact ep.2.symm
      subst oY
      have fK:b<w.heap.size:=hf.owlt _ _ eN
      obtain⟨NR,p8,yj,da⟩:∃NR:Array Value,NR.size=cv.size∧(∀k,k<off*i2.size→NR[k]? = cv[k]?)∧(execOp a.eval o).run P w = .ok (.value (.tuple #[])) (w.setRow b NR):=by
       cases len with
       | zero =>
         refine⟨cv,rfl,λ_ _=>rfl,?_⟩
         have hw:w.setRow b cv=w:=by
          have h2:(w.setRow b cv).heap=w.heap:=by
           apply Array.ext_getElem?
           intro k
           by_cases vT:k=b
           ·subst vT; rw[setRow_heap w k cv cv T' (0,0) hh,hh]
           ·exact setRow_other w b k _ vT
          exact aL (λh=>{ w with heap:=h }) h2
         rw[hw]
         simp[execOp,cZ,hv,resolve,invoke,builtin,Builtin.clear_,run_underlying hu]
       | succ len =>
         have ho:o'=off*i2.size:=by rcases sb with h|h; exact absurd h (by omega); exact h
         subst ho
         let zs:List Value:=(Builtin.zeroCells zv.cells (len+1)).toList
         have rz:zs.length=(len+1)*i2.size:=by simp only[zs,bu,size_zeroCells,iq]
         have dz:=KD P b (off*i2.size) T' (0,0) zs 0 cv w hh (λo _ h=>by simp at h) (by rw[aS] at hm; simp only[rz]; omega) (by
          intro u hu
          simp only[zs,Builtin.zeroCells,Array.toList_map,bh] at hu
          obtain⟨a',_,rfl⟩:=hu
          have jb:a' % zv.cells.size<zv.cells.size:=bV _ (by omega)
          have nA:zv.cells[a' % zv.cells.size]? = some zv.cells[a' % zv.cells.size]! := by simp[jb]
          have rA:a' % zv.cells.size<z.length:=by have:=gG.1; simp at this; omega
          have h1:=(gG.2.2 _ _ z[a' % zv.cells.size] (by simpa using nA) (an rA)).oneCell (gG.2.1 _ (ak rA))
          generalize zv.cells[a' % zv.cells.size]! = c at h1
          cases c<;>first|rfl|simp[oneCell] at h1)
         refine⟨(cv.toList.take (off*i2.size)++zs++cv.toList.drop (off*i2.size+zs.length)).toArray,?_,?_,?_⟩
         ·rw[aS] at hm
          simp only[cr,ao,ba,cm,bu,rz]; omega
         ·intro k hk
          rw[aS] at hm
          simp only[b7,aI]
          rw[al (by simp; omega),aY,af hk]
          simp
         ·simp only[zs] at dz
          simp[execOp,cZ,hv,resolve,invoke,builtin,Builtin.clear_,run_underlying hu,zeroValue,typeInfo,hi,j5,dz,zs]
      have du:∀x,x≠b→(w.setRow b NR).heap[x]? = w.heap[x]? := λx hx=>setRow_other w b x _ hx
      have cX:Ext w G (w.setRow b NR) G:=by
       refine⟨rfl,rfl,rfl,by simp[World.setRow],?_,?_,λ_ _ h => .inl h,λ_ h => .inr h,λ_ _ h=>h,IN hh _ p8,rfl⟩
       ·intro x _ lL
        exact du x (by rintro rfl; rw[eN] at lL; simp at lL)
       ·intro x o' gB
        refine⟨gB,?_⟩
        have gR:x≠b:=by rintro rfl; exact gS _ gB
        simp only[World.cell?,du x gR]
      have db:zu (λk=>k = .hobj n) w G (w.setRow b NR) G:=by
       refine⟨?_,λ_ _ h=>h⟩
       intro x k iD iI
       refine⟨iD,du x ?_,λ_ h=>h⟩
       rintro rfl
       rw[eN] at iD
       simp at iD
       exact iI iD.symm
      have jD:FI N (w.setRow b NR) G { st with heap:=st.heap.set n (.cells (cs.take (off*i2.size))) } a vs (yk vs ops):=by
       refine⟨hf.len,λi t' u' h1 h2=>(hf.var i t' u' h1 h2).keep cX db (by simp) (by simp),λi t' u' h1 h2=>(hf.loc i t' u' h1 h2).keep cX db (by simp) (by simp),hf.tv,hf.tl,hf.defers,hf.gen,?_,?_,?_,?_⟩
       ·intro x k hx; simpa[World.setRow] using hf.owlt x k hx
       ·intro x o' hx; simpa[World.setRow] using hf.fixlt x o' hx
       ·refine hf.heap.keepBut cX db (λn k dh=>⟨by simp; omega,by simp⟩) (λ_ =>?_)
        refine .inr ⟨b,hb,eN,gS,NR,T',setRow_heap w b cv NR T' (0,0) hh,?_,?_⟩
        ·simp; omega
        ·intro k c y hc hy
         rw[aY] at hy
         split at hy
         ·rename_i eA
          rw[yj k eA] at hc
          exact(jE k c y hc hy).keep cX db (by simp)
         ·simp at hy
       ·simp only[aZ]; exact hf.hdom
      unfold Oper.wp
      rw[da]
      have gJ:a.put o.dst (.tuple #[])=a:=by simp[eL,Act.put]
      have hd:yR vs o.dst = .n:=by simp[eL,yR]
      show next (a.put o.dst (.tuple #[])) _
      rw[gJ]
      refine hk _ _ G ?_ cX rfl
      rw[hd]
      exact jD
   ·simp at hs
  ·simp at hs
 ·simp at hs
end
end PI
set_option linter.unusedSimpArgs false
set_option linter.unusedVariables false
namespace PI
open Go Go.RowKit
theorem Eg:∀{ps:List PV},yD ps=true→∀p∈ps,yC p=true
 | [],_,p,hp=>by simp at hp
 | x :: xs, h, p, hp => by
   simp only[yD,ap] at h
   rcases az.1 hp with rfl|hp
   ·exact h.1
   ·exact Eg h.2 p hp
theorem b57 {p:PV} (h:yC p=true):∀x∈p.cells,yC x=true:=by
 intro x hx
 cases p<;>simp only[PV.cells,aQ] at hx<;>first|(subst hx; exact h)|(simp at hx; done)|skip
 exact Eg (by simpa[yC] using h) x hx
theorem VR.free {N:Nm} {w:World} {fix:Nat→Nat→Prop} {hp fB:Nat→Option Nat} {v:Value} {p:PV} (h:VR N w fix hp v p) (hr:yC p=true):VR N w fix fB v p:=by
 induction h with
 | bool b=>exact .bool b
 | int k n=>exact .int k n
 | str s=>exact .str s
 | nils own=>exact .nils own
 | void own a cap=>exact .void own a cap
 | nils'=>exact .nils'
 | void' a cap=>exact .void' a cap
 | list own b off len cap sz es cv cY dl dj dg hcell _ ih =>
   refine .list own b off len cap sz es cv cY dl dj dg hcell (λi e he j x hx=>ih i e he j x hx ?_)
   have:=Eg (by simpa[yC] using hr) e (ax he)
   exact b57 this x (ax hx)
 | agg cs ps cY dg eM _ ih=>exact .agg cs ps cY dg eM (λi c p hc hp=>ih i c p hc hp (Eg (by simpa[yC] using hr) p (ax hp)))
 | tuple cs ps cY _ ih=>exact .tuple cs ps cY (λi c p hc hp=>ih i c p hc hp (Eg (by simpa[yC] using hr) p (ax hp)))
 | nilptr=>exact .nilptr
 | cptr b off ps cv dg hcell _ ih=>exact .cptr b off ps cv dg hcell (λk x hx=>ih k x hx (Eg (by simpa[yC] using hr) x (ax hx)))
 | ptr n off b h=>simp[yC] at hr
 | rowp n sz agg len b cap h dl ep=>simp[yC] at hr
 | rows n sz agg off len b o cap m T h dl ho ep hm=>simp[yC] at hr
 | mapn=>exact .mapn
 | map n b h=>simp[yC] at hr
 | yield k n l y tmps caps h0 hl r7 cY _ _ _=>simp[yC,yD] at hr
 | func k fs cs pf pc h0 h1 h2 _ _ ihf ihc =>
   simp only[yC,ap] at hr
   exact .func k fs cs pf pc h0 h1 h2 (λi c p hc hp=>ihf i c p hc hp (Eg hr.1 p (ax hp))) (λi c p hc hp=>ihc i c p hc hp (Eg hr.2 p (ax hp)))
 | nilfunc=>exact .nilfunc
 | iface t v p _ ih=>exact .iface t v p (ih (by simpa[yC] using hr))
 | nilIface=>exact .nilIface
theorem VR.cp_dem {N:Nm} {w:World} {fix:Nat→Nat→Prop} {hp:Nat→Option Nat} {v:Value} {p:PV} (h:VR N w fix hp v p):cp (PI.dem p)=some (PI.dem p):=by
 cases h<;>rfl
theorem NY {n sz len:Nat} {agg:Bool}:∀{ps:List PV},.rowp n sz agg len∈ps→n∈DM ps
 | p :: ps, h => by
   simp only[DM,aw]
   rcases az.1 h with h|h
   ·subst h; exact .inl (by simp[zw])
   ·exact .inr (NY h)
def GS.shut (G:GS) (ns:List Nat) (heap:List PObj):GS:=
 { G with fix:=λb o=>G.fix b o∨∃n∈ns,∃cs:List PV,G.heap n=some b∧heap[n]? = some (.cells cs)∧o<cs.length }
section
variable {N:Nm}
theorem VR.shut {w:World} {G:GS} {ns:List Nat} {heap:List PObj} {v:Value} {p:PV} (h:VR N w G.fix G.heap v p):VR N w (G.shut ns heap).fix (G.shut ns heap).heap v p:=
 h.mono (λ_ _ h=>⟨.inl h,rfl⟩) (λ_ _ h=>h) (ShapeLe.refl w)
theorem NV:∀(ns:List Nat) (h:List PObj) (n:Nat),(n∈ns→(BU ns h)[n]? = h[n]?.map (λ_ => .gone))∧(n∉ns→(BU ns h)[n]? = h[n]?)
 | [],h,n=>by simp[BU]
 | m :: ns, h, n => by
   simp only[BU]
   obtain⟨i1,i2⟩:=NV ns (h.set m .gone) n
   rw[aO] at i1 i2
   by_cases hm:m=n
   ·subst hm
    refine⟨λ_ =>?_,λhn=>absurd (by simp) hn⟩
    by_cases hr:m∈ns
    ·rw[i1 hr]
     by_cases dc:m<h.length<;>simp[dc]
    ·rw[i2 hr]
     by_cases dc:m<h.length<;>simp[dc]
   ·have dh:¬n=m:=λe=>hm e.symm
    rw[ae hm] at i1 i2
    simp only[az,dh,false_or]
    exact⟨i1,i2⟩
theorem NX:∀(ns:List Nat) (h:List PObj),(BU ns h).length=h.length
 | [],h=>rfl
 | n::ns,h=>by simp only[BU]; rw[NX ns]; simp
theorem HR.shutG {w:World} {G:GS} {heap h2:List PObj} {ns:List Nat} (h:HR N w G heap) (hg:∀n:Nat,(n∈ns→h2[n]? = heap[n]?.map (λ_=>PObj.gone))∧(n∉ns→h2[n]? = heap[n]?)):HR N w (G.shut ns heap) h2:=by
 have own:∀n b,n∈ns→∀cs,G.heap n=some b→heap[n]? = some (.cells cs)→G.ow b=some (.hobj n):=by
  intro n b _ cs h1 h2
  rcases h.1 n _ h2 with h3|⟨b',k1,k2,_⟩
  ·simp at h3
  rw[h1] at k1; cases k1; exact k2
 have room:∀{n k:Nat} {v:Value} {es:List PV},Room w G (.hcell n k) v es→Room w (G.shut ns heap) (.hcell n k) v es:=by
  intro n k v es hr
  unfold Room at *
  split at hr
  ·rename_i a len cap
   rcases hr with hr|⟨h1,sz,cs,T,h2,h3,h4,h5,h6⟩
   ·exact .inl hr
   ·refine .inr ⟨h1,sz,cs,T,h2,h3,h4,h5,?_⟩
    rintro o ho (hf|⟨m,hm,cs',k1,k2,_⟩)
    ·exact h6 o ho hf
    ·have:=own m _ hm cs' k1 k2
     rw[h1] at this; simp at this
  ·trivial
 refine⟨?_,⟨λt ht=>⟨.inl (h.2.1 t ht).1,(h.2.1 t ht).2⟩,h.2.2⟩⟩
 intro n ob dU
 by_cases hn:n∈ns
 ·rw[(hg n).1 hn] at dU
  simp only[ab] at dU
  obtain⟨ob0,h0,rfl⟩:=dU
  exact .inl rfl
 ·rw[(hg n).2 hn] at dU
  rcases h.1 n _ dU with rfl|⟨b,k1,k2,k3⟩
  ·exact .inl rfl
  refine .inr ⟨b,k1,k2,?_⟩
  have nofix:(∀o,¬G.fix b o)→∀o,¬(G.shut ns heap).fix b o:=by
   rintro hf o (h1|⟨m,hm,cs',j1,j2,_⟩)
   ·exact hf o h1
   ·have:=own m _ hm cs' j1 j2
    rw[k2] at this
    simp at this; subst this; exact hn hm
  cases ob with
  | cells cs =>
    obtain⟨f,cv,T,a1,a2,a3⟩:=k3
    refine⟨nofix f,cv,T,a1,a2,?_⟩
    intro k c x hc hx
    obtain⟨b1,b2,b3⟩:=a3 k c x hc hx
    refine⟨b1.shut,b2,?_⟩
    split at b3
    ·exact room b3
    ·trivial
  | map es =>
    obtain⟨mes,clock,a1,a2,a3,a4,a5⟩:=k3
    refine⟨mes,clock,a1,a2,a3,a4,?_⟩
    intro i e p hi hp
    obtain⟨b1,b2,b3⟩:=a5 i e p hi hp
    refine⟨b1.shut,b2.shut,?_⟩
    split at b3
    ·exact room b3
    ·trivial
  | gone=>trivial
  | loop ready =>
    obtain⟨f,r,a1,a2⟩:=k3
    exact⟨nofix f,r,a1,a2⟩
  | over id =>
    obtain⟨f,r,a1,a2⟩:=k3
    exact⟨nofix f,r,a1,a2⟩
theorem SQ {w:World} {G:GS} {heap:List PObj} (h:HR N w G heap) {ns:List Nat} {n sz len b cap:Nat} (dl:len≤cap) {agg:Bool} {cs es:List PV} (hn:n∈ns) (hb:G.heap n=some b) (hc:heap[n]? = some (.cells cs)) (dj:agg=true∨sz=1)
  (he:Ao sz agg cs len 0=some es):VR N w (G.shut ns heap).fix (G.shut ns heap).heap (.slice (some ⟨b,0,none⟩) len cap) (.list false es):=by
 rcases h.1 n _ hc with hg|⟨b',k1,k2,f,cv,T,a1,a2,a3⟩
 ·simp at hg
 have:b'=b:=by rw[hb] at k1; cases k1; rfl
 subst this
 obtain⟨e1,e2⟩:=JM he
 have fI:∀(i:Nat) (e:PV),es[i]? = some e→i*sz+sz≤cs.length∧e.cells.length=sz∧∀(j:Nat) (x:PV),e.cells[j]? = some x→∃y,cs[i*sz+j]? = some y∧x=dem y∧j<sz:=by
  intro i e hi
  have:=e2 i e hi
  rw[aU] at this
  unfold yu at this
  split at this
  ·split at this
   ·rename_i eF
    simp only[aa] at this; subst this
    refine⟨eF,by simp[PV.cells]; omega,?_⟩
    intro j x hx
    simp only[PV.cells,aF,ab] at hx
    obtain⟨y,hy,rfl⟩:=hx
    rw[aY] at hy
    split at hy
    ·rw[bc] at hy
     exact⟨y,hy,rfl,by assumption⟩
    ·simp at hy
   ·simp at this
  ·rename_i iB
   have h1:sz=1:=by rcases dj with h|h; exact absurd h (by simpa using iB); exact h
   subst h1
   split at this
   ·rename_i y hy
    have dc:i*1<cs.length:=(ah.1 hy).1
    have fQ:y.flat=true:=(a3 _ cv[i*1] y (by simp[a2,dc]) hy).2.1
    have gb:e=dem y∧y.cells=[y]:=by
     cases y<;>simp_all [cp,dem,PV.cells,PV.flat]
    obtain⟨rfl,_⟩:=gb
    have it:(dem y).cells=[dem y]:=by cases y<;>simp_all [dem,PV.cells,PV.flat]
    refine⟨by omega,by rw[it]; rfl,?_⟩
    intro j x hx
    rw[it] at hx
    cases j with
    | zero=>simp at hx; subst hx; exact⟨y,hy,rfl,by omega⟩
    | succ j=>simp at hx
   ·simp at this
 have oU:∀k,k<len*sz→k<cs.length:=by
  intro k hk
  have fZ:0<sz:=by
   rcases Nat.eq_zero_or_pos sz with h|h
   ·subst h; simp at hk
   ·exact h
  have hi:k / sz<len:=by rw[Nat.div_lt_iff_lt_mul fZ]; exact hk
  have:=(fI (k / sz) es[k / sz] (an (by omega))).1
  have h2:k / sz*sz+k % sz=k:=by rw[cG]; exact Nat.div_add_mod k sz
  have h3:k % sz<sz:=bV _ fZ
  omega
 refine .list false b' 0 len cap sz es (λk=>cv.getD k undef) e1 dl ?_ ?_ ?_ ?_
 ·intro e he
  obtain⟨i,hi⟩:=bj.1 he
  exact(fI i e hi).2.1
 ·intro e he x hx
  obtain⟨i,hi⟩:=bj.1 he
  obtain⟨j,hj⟩:=bj.1 hx
  obtain⟨y,hy,rfl,_⟩:=(fI i e hi).2.2 j x hj
  rw[GK]
  have dc:i*sz+j<cs.length:=(ah.1 hy).1
  exact(a3 _ cv[i*sz+j] y (by simp[a2,dc]) hy).2.1
 ·intro k hk
  have dc:=oU k hk
  refine⟨?_,.inr ⟨n,hn,cs,hb,hc,by omega⟩⟩
  have:k<cv.size:=by omega
  simp[World.cell?,a1,this]
 ·intro i e hi j x hx
  obtain⟨y,hy,rfl,_⟩:=(fI i e hi).2.2 j x hx
  have dc:i*sz+j<cs.length:=(ah.1 hy).1
  have lB:i*sz+j<cv.size:=by omega
  have:=(a3 _ cv[i*sz+j] y (by simp[lB]) hy).1
  simp only[aV,cW lB,bX]
  exact this.dem.shut
theorem KE {w:World} {G:GS} {heap:List PObj} (h:HR N w G heap) {ns:List Nat} {v:Value} {p q:PV} (eO:∀m sz agg len,p = .rowp m sz agg len→m∈ns) (hv:VR N w G.fix G.heap v p) (hp:Cd heap p=some q):
  VR N w (G.shut ns heap).fix (G.shut ns heap).heap v q∧(p.flat=true→q.flat=true)∧(∀es,q = .list true es→p = .list true es):=by
 by_cases hr:∃m sz agg len,p = .rowp m sz agg len
 ·obtain⟨m,sz,agg,len,rfl⟩:=hr
  simp only[Cd] at hp
  split at hp
  ·rename_i dj
   split at hp
   ·rename_i cs hh
    simp only[ab] at hp
    obtain⟨es,gf,rfl⟩:=hp
    refine⟨?_,λ_=>rfl,λes e=>by simp at e⟩
    cases hv with
    | rowp _ _ _ _ b cap dn dl _=>exact SQ h dl (eO m sz agg len rfl) dn hh dj gf
   ·simp at hp
  ·simp at hp
 ·have:Cd heap p=some p:=by cases p<;>first|rfl|exact absurd ⟨_,_,_,_,rfl⟩ hr
  rw[this] at hp
  simp only[aa] at hp
  subst hp
  exact⟨hv.shut,id,λes e=>e⟩
theorem Uf {heap:List PObj}:∀{ps qs:List PV},Cu heap ps=some qs→qs.length=ps.length∧∀(i:Nat) (q:PV),qs[i]? = some q→∃p,ps[i]? = some p∧Cd heap p=some q
 | [],qs,h=>by simp[Cu] at h; subst h; simp
 | p :: ps, qs, h => by
   simp only[Cu,aj,ab] at h
   obtain⟨q,h1,qs',h2,rfl⟩:=h
   obtain⟨k1,k2⟩:=Uf h2
   refine⟨by simp[k1],?_⟩
   intro i x hx
   cases i with
   | zero=>simp at hx; subst hx; exact⟨p,rfl,h1⟩
   | succ i=>exact k2 i x (by simpa using hx)
theorem c1n {w:World} {G:GS} {heap:List PObj} (h:HR N w G heap) {ns:List Nat} {v:Value} {p q:PV} (eO:∀x∈p.cells,∀m sz agg len,x = .rowp m sz agg len→m∈ns) (hv:VR N w G.fix G.heap v p) (hp:zY heap p=some q):
  VR N w (G.shut ns heap).fix (G.shut ns heap).heap v q:=by
 by_cases ha:∃ps,p = .agg ps
 ·obtain⟨ps,rfl⟩:=ha
  simp only[zY,ab] at hp
  obtain⟨qs,kR,rfl⟩:=hp
  obtain⟨f1,f2⟩:=Uf kR
  cases hv with
  | agg cs _ cY dg eM hcell =>
    refine .agg cs qs (by rw[f1]; exact cY) ?_ ?_ ?_
    ·intro y hy
     obtain⟨i,hi⟩:=bj.1 hy
     obtain⟨x,hx,kS⟩:=f2 i y hi
     have dc:i<cs.size:=by have:=(ah.1 hx).1; omega
     exact(KE h (eO x (ax hx)) (hcell i cs[i] x (by simp[dc]) hx) kS).2.1 (dg x (ax hx))
    ·intro i c es hc hy
     obtain⟨x,hx,kS⟩:=f2 i _ hy
     have:=(KE h (eO x (ax hx)) (hcell i c x hc hx) kS).2.2 es rfl
     subst this
     exact eM i c es hc hx
    ·intro i c y hc hy
     obtain⟨x,hx,kS⟩:=f2 i y hy
     exact(KE h (eO x (ax hx)) (hcell i c x hc hx) kS).1
 ·have:zY heap p=some p:=by cases p<;>first|rfl|exact absurd ⟨_,rfl⟩ ha
  rw[this] at hp
  simp only[aa] at hp
  subst hp
  exact hv.shut
mutual
theorem OR (h:List PObj):∀p:PV,(frz h p).flat=p.flat
 | .list _ _ | .agg _ | .tuple _=>rfl
 | .rowp n sz agg len => by
   simp only[frz]
   cases hf:Cd h (.rowp n sz agg len) with
   | none=>rfl
   | some q =>
     simp only[Cd] at hf
     split at hf
     ·split at hf
      ·simp only[ab] at hf
       obtain⟨_,_,rfl⟩:=hf; rfl
      ·simp at hf
     ·simp at hf
 | .bool _ | .int _ _ | .str _ | .nils | .void | .nilptr | .cptr _ | .loc _ _ | .lptr _ _ _ | .ptr _ _ | .rows _ _ _ _ _ | .fresh _ _ _ _ | .map _ | .func _ _ _ | .nilfunc | .iface _ _ | .nilIface | .dead=>rfl
end
theorem GU (h:List PObj):∀l:List PV,BK h l=l.map (frz h)
 | []=>rfl
 | x::l=>by simp[BK,GU h l]
theorem GV:∀l:List PV,DL l=l.flatMap Cv
 | []=>rfl
 | x::l=>by simp[DL,GV l]
theorem OT (h:List PObj) (p:PV) (hp:∀x∈p.cells,x.flat=true):(frz h p).cells=p.cells.map (frz h):=by
 cases p with
 | agg cs=>simp[frz,PV.cells,GU]
 | tuple cs=>simp[frz,PV.cells]
 | rowp n sz agg len =>
   have:=OR h (.rowp n sz agg len)
   revert this
   generalize hq:frz h (.rowp n sz agg len)=q
   intro this
   cases q<;>simp_all [PV.cells,PV.flat]
 | _=>simp[frz,PV.cells]
theorem c1o {p x:PV} (hx:x∈p.cells):∀n∈Cv x,n∈Cv p:=by
 intro n hn
 cases p<;>simp only[PV.cells,aQ,List.not_mem_nil] at hx<;>first|(subst hx; exact hn)|skip
 simp only[Cv,GV]
 exact bN.2 ⟨x,hx,hn⟩
theorem c8h {h:List PObj} {p:PV} {es:List PV} (e:frz h p = .list true es):∃es',p = .list true es'∧es=BK h es':=by
 cases p<;>simp only[frz] at e
 case list o l=>cases e; exact⟨_,rfl,rfl⟩
 case rowp n sz agg len=>
  cases hf:Cd h (.rowp n sz agg len) with
  | none=>rw[hf] at e; cases e
  | some q =>
    rw[hf] at e
    simp only[bX] at e
    subst e
    simp only[Cd] at hf
    split at hf
    ·split at hf
     ·simp only[ab] at hf
      obtain⟨_,_,e⟩:=hf; cases e
     ·simp at hf
    ·simp at hf
 all_goals cases e
theorem OU {w:World} {G:GS} {heap:List PObj} (h:HR N w G heap) {ns:List Nat} {v:Value} {p:PV} (hv:VR N w G.fix G.heap v p) (eO:∀n∈Cv p,n∈ns):VR N w (G.shut ns heap).fix (G.shut ns heap).heap v (frz heap p):=by
 induction hv with
 | list own b off len cap sz es cv cY dl dj dg hcell di ih =>
   simp only[frz,GU]
   refine .list own b off len cap sz (es.map (frz heap)) cv (by rw[aG]; exact cY) dl ?_ ?_ (λk hk=>⟨(hcell k hk).1,.inl (hcell k hk).2⟩) ?_
   ·intro e he
    obtain⟨e',dN,rfl⟩:=bh.1 he
    rw[OT heap e' (dg e' dN),aG]
    exact dj e' dN
   ·intro e he x hx
    obtain⟨e',dN,rfl⟩:=bh.1 he
    rw[OT heap e' (dg e' dN)] at hx
    obtain⟨y,hy,rfl⟩:=bh.1 hx
    rw[OR]
    exact dg e' dN y hy
   ·intro i e he j x hx
    rw[aF,ab] at he
    obtain⟨e',dN,rfl⟩:=he
    have hm:=ax dN
    rw[OT heap e' (dg e' hm),aF,ab] at hx
    obtain⟨y,hy,rfl⟩:=hx
    refine ih i e' dN j y hy (λn hn=>eO n ?_)
    simp only[Cv,GV]
    exact bN.2 ⟨e',hm,c1o (ax hy) n hn⟩
 | agg cs ps cY dg eM di ih =>
   simp only[frz,GU]
   refine .agg cs _ (by rw[aG]; exact cY) ?_ ?_ ?_
   ·intro x hx
    obtain⟨y,hy,rfl⟩:=bh.1 hx
    rw[OR]
    exact dg y hy
   ·intro i c es hc hp
    rw[aF,ab] at hp
    obtain⟨y,hy,e⟩:=hp
    obtain⟨es',rfl,_⟩:=c8h e
    exact eM i c es' hc hy
   ·intro i c x hc hp
    rw[aF,ab] at hp
    obtain⟨y,hy,rfl⟩:=hp
    refine ih i c y hc hy (λn hn=>eO n ?_)
    simp only[Cv,GV]
    exact bN.2 ⟨y,ax hy,hn⟩
 | tuple cs ps cY di ih =>
   simp only[frz,GU]
   refine .tuple cs _ (by rw[aG]; exact cY) ?_
   intro i c x hc hp
   rw[aF,ab] at hp
   obtain⟨y,hy,rfl⟩:=hp
   refine ih i c y hc hy (λn hn=>eO n ?_)
   simp only[Cv,GV]
   exact bN.2 ⟨y,ax hy,hn⟩
 | rowp n sz agg len b cap hb dl ep =>
   have hv:VR N w G.fix G.heap (.slice (some ⟨b,0,none⟩) len cap) (.rowp n sz agg len) := .rowp n sz agg len b cap hb dl ep
   simp only[frz]
   cases hf:Cd heap (.rowp n sz agg len) with
   | none=>exact hv.shut
   | some q=>exact(KE h (λm _ _ _ e=>by cases e; exact eO _ (by simp[Cv])) hv hf).1
 | bool b=>exact .bool b
 | int k n=>exact .int k n
 | str s=>exact .str s
 | nils own=>exact .nils own
 | void own a cap=>exact .void own a cap
 | nils'=>exact .nils'
 | void' a cap=>exact .void' a cap
 | nilptr=>exact .nilptr
 | cptr b off ps cv dg hcell di _=>exact(VR.cptr b off ps cv dg hcell di).shut
 | ptr n off b h=>exact(VR.ptr n off b h).shut
 | rows n sz agg off len b o cap m T h dl ho ep hm=>exact(VR.rows n sz agg off len b o cap m T h dl ho ep hm).shut
 | mapn=>exact .mapn
 | map n b h=>exact(VR.map n b h).shut
 | func k fs cs pf pc h0 h1 h2 hf hc _ _=>exact(VR.func k fs cs pf pc h0 h1 h2 hf hc).shut
 | yield k n l y tmps caps h0 hl hr cY dj hc _=>exact(VR.yield k n l y tmps caps h0 hl hr cY dj hc).shut
 | nilfunc=>exact .nilfunc
 | iface t v p h _=>exact(VR.iface t v p h).shut
 | nilIface=>exact .nilIface
end
structure HeapOnly (G:GS):Prop where
 ow:∀b k,G.ow b=some k→k.isH=true
 box:∀g,G.box g=none
structure Between (N:Nm) (w:World) (G:GS) (h:List PObj):Prop where
 only:HeapOnly G
 fixlt:∀b o,G.fix b o→b<w.heap.size
 owlt:∀b k,G.ow b=some k→b<w.heap.size
 heap:HR N w G h
 hdom:∀n b,G.heap n=some b→n<h.length
def FM (w0:World) (G0:GS) (w:World) (G:GS) (v:Value) (es:List PV):Prop:=
 match v with
 | .slice (some a) len cap => cap = len ∨
   ((w0.heap.size ≤ a.block ∨ G0.ow a.block ≠ none) ∧ ∃ sz cs T, (∀ e ∈ es, e.cells.length = sz) ∧ Live w a.block cs T ∧ a.off + cap * sz ≤ cs.size ∧
     0<len∧∀o,a.off+len*sz≤o→¬G.fix a.block o)
 | _=>True
structure OwnIn (N:Nm) (w:World) (G:GS) (own:Option Nat) (args:List PV) (vals:Array Value):Prop where
 ow:∀b k,G.ow b=some k→∃i,own=some i∧k = .var i
 box:∀g,G.box g=none
 heap:∀n,G.heap n=none
 fixlt:∀b o,G.fix b o→b<w.heap.size
 owlt:∀b k,G.ow b=some k→b<w.heap.size
 tab:Tab N w G.fix
 size:vals.size=args.length
 vr:∀(i:Nat) (v:Value) (p:PV),vals[i]? = some v→args[i]? = some p→VR N w G.fix G.heap v p
 room:∀(i:Nat) (v:Value) (es:List PV),own=some i→vals[i]? = some v→args[i]? = some (.list true es)→Room w G (.var i) v es
def d5a (N:Nm) (P:Program) (cf:yt):Prop:=
 ∀ (k : Nat) (own : Option Nat) (args : List PV) (r : PV) (h' : List PObj), cf k (BY own args) [] = some (r, h') → N.yl k = none ∧ ∀ (w : World) (G : GS) (vals : Array Value), OwnIn N w G own args vals →
   Calls P (N.fn k) vals w λe w'=>∃v G',e = .returned v∧VR N w' G'.fix G'.heap v r∧Ext w G w' G'∧(∀b o,G'.fix b o→b<w'.heap.size)∧∀es,r = .list true es→FM w G w' G' v es
def c8i (N:Nm) (P:Program) (cf:yt):Prop:=
 ∀ (k : Nat) (args : List PV) (r : PV) (h h' : List PObj), cf k args h = some (r, h') → N.yl k = none ∧ ∀ (w : World) (G : GS) (vals : Array Value), Between N w G h → vals.size = args.length →
   (∀(i:Nat) (v:Value) (p:PV),vals[i]? = some v→args[i]? = some p→VR N w G.fix G.heap v p) →
   Calls P (N.fn k) vals w λe w'=>∃v G',e = .returned v∧VR N w' G'.fix G'.heap v r∧Ext w G w' G'∧Between N w' G' h'
structure CallOK (N:Nm) (P:Program) (cf:yt):Prop where
 plain:c8i N P cf
 own:d5a N P cf
theorem Room.sub {w:World} {G G':GS} {key:Key} {v:Value} {es:List PV} (h:Room w G key v es) (hf:G'.fix=G.fix) (ho:∀b,G.ow b=some key→G'.ow b=some key):Room w G' key v es:=by
 unfold Room at *
 split at h
 ·rename_i a len cap
  rcases h with h|⟨h1,sz,cs,T,h2,h3,h4,h5,h6⟩
  ·exact .inl h
  ·exact .inr ⟨ho _ h1,sz,cs,T,h2,h3,h4,h5,by rw[hf]; exact h6⟩
 ·trivial
theorem HR.sub {N:Nm} {w:World} {G G':GS} {heap:List PObj} (h:HR N w G heap) (hf:G'.fix=G.fix) (hh:G'.heap=G.heap) (ho:∀b k,k.isH=true→G.ow b=some k→G'.ow b=some k):HR N w G' heap:=by
 refine⟨?_,by rw[hf]; exact h.2⟩
 intro n ob dU
 rcases h.1 n ob dU with rfl|⟨b,h1,h2,h3⟩
 ·exact .inl rfl
 refine .inr ⟨b,by rw[hh]; exact h1,ho _ _ rfl h2,?_⟩
 cases ob with
 | cells cs =>
   obtain⟨f,cv,T,a1,a2,a3⟩:=h3
   refine⟨by rw[hf]; exact f,cv,T,a1,a2,?_⟩
   intro k c x hc hx
   obtain⟨b1,b2,b3⟩:=a3 k c x hc hx
   refine⟨by rw[hf,hh]; exact b1,b2,?_⟩
   split at b3
   ·exact b3.sub hf (λb=>ho b _ rfl)
   ·trivial
 | map es =>
   obtain⟨mes,clock,a1,a2,a3,a4,a5⟩:=h3
   refine⟨mes,clock,a1,a2,a3,a4,?_⟩
   intro i e p hi hp
   obtain⟨b1,b2,b3⟩:=a5 i e p hi hp
   refine⟨by rw[hf,hh]; exact b1,by rw[hf,hh]; exact b2,?_⟩
   split at b3
   ·exact b3.sub hf (λb=>ho b _ rfl)
   ·trivial
 | gone=>trivial
 | loop ready =>
   obtain⟨f,r,a1,a2⟩:=h3
   exact⟨by rw[hf]; exact f,r,a1,a2⟩
 | over id =>
   obtain⟨f,r,a1,a2⟩:=h3
   exact⟨by rw[hf]; exact f,r,a1,a2⟩
def Bl (ow:Nat→Option Key) (b:Nat):Option Key:=
 match ow b with
 | some k=>if k.isH then some k else none
 | none=>none
theorem GB {ow:Nat→Option Key} {b:Nat} {k:Key} (h:Bl ow b=some k):ow b=some k∧k.isH=true:=by
 unfold Bl at h
 split at h
 ·split at h
  ·simp at h; subst h; exact⟨by assumption,by assumption⟩
  ·simp at h
 ·simp at h
theorem N2 {ow:Nat→Option Key} {b:Nat} {k:Key} (h:ow b=some k) (hk:k.isH=true):Bl ow b=some k:=by
 simp[Bl,h,hk]
def Al (N:Nm) (P:Program) (L:Nat→Option PFunc):Prop:=
 ∀k f,L k=some f→∃fn,P.funcs[N.fn k]? = some fn∧fn.name ≠ "runtime.NumGoroutine" ∧ fn.body.isNone=false
section
variable {E:Env} {N:Nm} {w:World} {G:GS} {st:St} {a:Act} {vs:List Tmp} {ops:List Oper} {P:Program}
variable {o:Oper} {j:Nat} {next:Act→World→Prop} {Q:Exit→Act→World→Prop} {u:PV} {st1:St}
theorem Dg {L:Nat→Option PFunc} (hF:Al N P L) {k:Nat} {f:PFunc} (hL:L k=some f) (args:Array Value) (w:World):(callFunc (N.fn k) args).run P w = .ok (.enter (N.fn k) args) w:=by
 obtain⟨fn,h1,h2,h3⟩:=hF k f hL
 have eB:(fn.name == "runtime.NumGoroutine")=false:=by simpa using h2
 simp only[callFunc,Sem.run_bind,run_program,Result.andThen_ok,h1,eB,h3,aJ,if_false,Sem.run_pure]
mutual
theorem OV (h:List PObj):∀p:PV,yC p=true→frz h p=p
 | .list _ es,hp=>by simp only[frz]; rw[KF h es (by simpa[yC] using hp)]
 | .agg cs,hp=>by simp only[frz]; rw[KF h cs (by simpa[yC] using hp)]
 | .tuple vs,hp=>by simp only[frz]; rw[KF h vs (by simpa[yC] using hp)]
 | .rowp _ _ _ _,hp=>by simp[yC] at hp
 | .bool _,_ | .int _ _,_ | .str _,_ | .nils,_ | .void,_ | .nilptr,_ | .cptr _,_ | .loc _ _,_ | .lptr _ _ _,_ | .ptr _ _,_ | .rows _ _ _ _ _,_ | .fresh _ _ _ _,_ | .map _,_ | .func _ _ _,_ | .nilfunc,_ | .iface _ _,_ | .nilIface,_ | .dead,_=>rfl
theorem KF (h:List PObj):∀l:List PV,yD l=true→BK h l=l
 | [],_=>rfl
 | x :: l, hp => by
   simp only[yD,ap] at hp
   simp only[BK]
   rw[OV h x hp.1,KF h l hp.2]
end
theorem OW (nm:Names vs (yk vs ops)) (ho:ops[j]? = some o) (hf:FI N w G st a vs (yk vs ops)) {cf:yt} (dO:CallOK N P cf) {k:Nat} {args:List PV} {vals:Array Value} {r:PV} {h':List PObj}
  (dj:vals.size=args.length) (hv:∀(i:Nat) (v:Value) (p:PV),vals[i]? = some v→args[i]? = some p→VR N w G.fix G.heap v p) (dL:yD args=true) (hc:cf k args []=some (r,h')) (hr:yC (frz h' r)=true)
  (da:(execOp a.eval o).run P w = .ok (.enter (N.fn k) vals) w) (hk:yK N w G a st (dem (frz h' r)) vs ops j o next):o.wp P a w next Q:=by
 unfold Oper.wp
 rw[da]
 let Gc:GS:={ fix:=G.fix,heap:=λ_=>none,box:=λ_=>none,ow:=λ_=>none }
 have ef:Between N w Gc []:=⟨⟨by intro b k h; simp[Gc] at h,λ_=>rfl⟩,hf.fixlt,by intro b k h; simp[Gc] at h,⟨by intro n ob h; simp at h,hf.heap.2⟩,by intro n b h; simp[Gc] at h⟩
 refine((dO.plain k args r [] h' hc).2 w Gc vals ef dj (λi v p h1 h2=>(hv i v p h1 h2).free (Eg dL p (ax h2)))).mono ?_
 rintro e w' ⟨v,G2,rfl,di,he,dK⟩
 let G':GS:={ G with fix:=(G2.shut (Cv r) h').fix }
 have lV:∀b,b<w.heap.size→w'.heap[b]? = w.heap[b]? := λb hb=>he.same b hb rfl
 have eM:∀n b cs,G2.heap n=some b→h'[n]? = some (.cells cs)→G2.ow b≠none:=by
  intro n b cs h1 h2
  rcases dK.heap.1 n _ h2 with h3|⟨b',k1,k2,_⟩
  ·simp at h3
  rw[h1] at k1; cases k1
  rw[k2]; simp
 have ec:∀b o,G'.fix b o→G.fix b o∨w.heap.size≤b:=by
  rintro b o (h|⟨n,_,cs,h1,h2,_⟩)
  ·rcases he.newfix b o h with h|h|h
   ·exact .inl h
   ·exact .inr h
   ·exact absurd rfl h
  ·exact .inr ((he.own b (eM n b cs h1 h2)).resolve_right (λh=>h rfl))
 have dc:∀b o,G'.fix b o→b<w'.heap.size:=by
  rintro b o (h|⟨n,_,cs,h1,h2,_⟩)
  ·exact dK.fixlt b o h
  ·cases hk:G2.ow b with
   | none=>exact absurd hk (eM n b cs h1 h2)
   | some key=>exact dK.owlt b key hk
 have cX:Ext w G w' G':=by
  refine⟨he.os,he.tape,he.output,he.size,λb dc _=>lV b dc,λb o h=>⟨.inl (he.fix b o h).1,(he.fix b o h).2⟩,?_,λ_ h => .inr h,λ_ _ h=>h,he.shape,rfl⟩
  intro b o h
  rcases ec b o h with h|h
  ·exact .inl h
  ·exact .inr (.inl h)
 have db:zu (λ_=>False) w G w' G':=by
  refine⟨?_,λ_ _ h=>h⟩
  intro b key dn _
  have eK:=hf.owlt _ _ dn
  refine⟨dn,lV b eK,?_⟩
  intro o h
  rcases ec b o h with h|h
  ·exact h
  ·omega
 have dD:=hf.ext (G':=G') cX db hf.gen (λb key h=>aP (hf.owlt b key h) he.size) dc
 have gD:VR N w' G'.fix G'.heap v (dem (frz h' r)):=((OU dK.heap di (ns:=Cv r) (λn hn=>hn)).free hr).dem
 exact hk _ _ G' (dD.put nm (BH ho) (SR.of_pure gD ((OU dK.heap di (ns:=Cv r) (λn hn=>hn)).cp_dem))) cX (BJ _ _ _)
theorem Ug (nm:Names vs (yk vs ops)) (ho:ops[j]? = some o) (hf:FI N w G st a vs (yk vs ops)) {cf:yt} (dO:CallOK N P cf) {k:Nat} {args:List PV} {vals:Array Value} {r:PV} {h':List PObj}
  (dj:vals.size=args.length) (hv:∀(i:Nat) (v:Value) (p:PV),vals[i]? = some v→args[i]? = some p→VR N w G.fix G.heap v p) (dL:yD args=true) (hc:cf k args []=some (r,h')) (hr:yC r=true)
  (da:(execOp a.eval o).run P w = .ok (.enter (N.fn k) vals) w) (hk:yK N w G a st (dem r) vs ops j o next):o.wp P a w next Q:=
 OW nm ho hf dO dj hv dL hc (by rw[OV h' r hr]; exact hr) da (by rw[OV h' r hr]; exact hk)
theorem b7T (hf:FI N w G st a vs (yk vs ops)) {cf:yt} (dO:CallOK N P cf) {k:Nat} {args:List PV} {vals:Array Value} {r:PV} {h':List PObj}
  (dj:vals.size=args.length) (hv:∀(i:Nat) (v:Value) (p:PV),vals[i]? = some v→args[i]? = some p→VR N w G.fix G.heap v p) (hc:cf k args st.heap=some (r,h'))
  (da:(execOp a.eval o).run P w = .ok (.enter (N.fn k) vals) w) (hk:∀(v:Value) (w':World) (G':GS),FI N w' G' { st with heap:=h' } a vs (yk vs ops)→VR N w' G'.fix G'.heap v r→Ext w G w' G'→next (a.put o.dst v) w'):o.wp P a w next Q:=by
 unfold Oper.wp
 rw[da]
 let Gc:GS:={ fix:=G.fix,heap:=G.heap,box:=λ_=>none,ow:=Bl G.ow }
 have ef:Between N w Gc st.heap:=⟨⟨λb k h=>(GB h).2,λ_=>rfl⟩,hf.fixlt,λb k h=>hf.owlt b k (GB h).1,hf.heap.sub rfl rfl (λb k hk h=>N2 h hk),hf.hdom⟩
 refine((dO.plain k args r st.heap h' hc).2 w Gc vals ef dj hv).mono ?_
 rintro e w' ⟨v,G2,rfl,di,he,dK⟩
 let G':GS:={ fix:=G2.fix,heap:=G2.heap,box:=G.box,ow:=λb=>match G.ow b with | some k=>if k.isH then G2.ow b else some k | none=>G2.ow b,df:=G.df }
 have cX:Ext w G w' G':=by
  refine⟨he.os,he.tape,he.output,he.size,λb dc h=>he.same b dc (by simp[Gc,Bl,h]),λb o h=>he.fix b o h,?_,?_,he.heap,he.shape,rfl⟩
  ·intro b o h
   rcases he.newfix b o h with h|h|h
   ·exact .inl h
   ·exact .inr (.inl h)
   ·refine .inr (.inr ?_)
    intro e
    apply h
    simp[Gc,Bl,e]
  ·intro b h
   cases hb:G.ow b with
   | some k=>exact .inr (by simp)
   | none =>
     simp only[G',hb] at h
     rcases he.own b h with h|h
     ·exact .inl h
     ·exact absurd (by simp[Gc,Bl,hb]) h
 have db:zu (λk=>k.isH=true) w G w' G':=by
  refine⟨?_,λ_ _ h=>h⟩
  intro b key dn hn
  have eK:=hf.owlt _ _ dn
  have eG:Gc.ow b=none:=by simp[Gc,Bl,dn,hn]
  refine⟨by simp[G',dn,hn],he.same b eK eG,?_⟩
  intro o h
  rcases he.newfix b o h with h|h|h
  ·exact h
  ·omega
  ·exact absurd eG h
 have eo:HR N w' G' h':=by
  refine dK.heap.sub rfl rfl ?_
  intro b k x7 h
  cases hb:G.ow b with
  | none=>simp only[G',hb]; exact h
  | some k0 =>
    by_cases kH:k0.isH=true
    ·simp only[G',hb,kH,if_true]; exact h
    ·have eG:Gc.ow b=none:=by simp[Gc,Bl,hb,kH]
     have dc:=hf.owlt _ _ hb
     rcases he.own b (by rw[h]; simp) with h2|h2
     ·omega
     ·exact absurd eG h2
 have dD:FI N w' G' { st with heap:=h' } a vs (yk vs ops):=by
  refine⟨hf.len,λi t u h1 h2=>(hf.var i t u h1 h2).keep cX db (by simp[Key.isH]) (by simp[Key.isH]),λj t u h1 h2=>(hf.loc j t u h1 h2).keep cX db (by simp[Key.isH]) (by simp[Key.isH]),hf.tv,hf.tl,(hf.defers.trans cX.df.symm),hf.gen,?_,dK.fixlt,eo,dK.hdom⟩
  intro b k h
  cases hb:G.ow b with
  | some k0=>exact aP (hf.owlt _ _ hb) he.size
  | none =>
    simp only[G',hb] at h
    exact dK.owlt _ _ h
 exact hk v w' G' dD di cX
theorem OX (nm:Names vs (yk vs ops)) (ho:ops[j]? = some o) (hf:FI N w G st a vs (yk vs ops)) {cf:yt} (dO:CallOK N P cf) {k:Nat} {args:List PV} {vals:Array Value} {r:PV} {h':List PObj}
  (dj:vals.size=args.length) (hv:∀(i:Nat) (v:Value) (p:PV),vals[i]? = some v→args[i]? = some p→VR N w G.fix G.heap v p) (hc:cf k args st.heap=some (r,h'))
  (da:(execOp a.eval o).run P w = .ok (.enter (N.fn k) vals) w) (hk:yK N w G a { st with heap:=h' } (dem r) vs ops j o next):o.wp P a w next Q:=
 b7T hf dO dj hv hc da λv w' G' dD di cX=>hk _ _ G' (dD.put nm (BH ho) (SR.of_pure di.dem di.cp_dem)) cX (BJ _ _ _)
theorem FI.freeze {lm:Nat→Option Tmp} (hf:FI N w G st a vs lm) (ns:List Nat):FI N w (G.shut ns st.heap) { st with heap:=BU ns st.heap } a vs lm∧Ext w G w (G.shut ns st.heap):=by
 have own:∀n b cs,G.heap n=some b→st.heap[n]? = some (.cells cs)→G.ow b=some (.hobj n):=by
  intro n b cs h1 h2
  rcases hf.heap.1 n _ h2 with h3|⟨b',k1,k2,_⟩
  ·simp at h3
  rw[h1] at k1; cases k1; exact k2
 have cX:Ext w G w (G.shut ns st.heap):=by
  refine⟨rfl,rfl,rfl,am _,λ_ _ _=>rfl,λ_ _ h=>⟨.inl h,rfl⟩,?_,λ_ h => .inr h,λ_ _ h=>h,ShapeLe.refl w,rfl⟩
  rintro b o (h|⟨n,_,cs,h1,h2,_⟩)
  ·exact .inl h
  ·exact .inr (.inr (by rw[own n b cs h1 h2]; simp))
 have db:zu (λk=>k.isH=true) w G w (G.shut ns st.heap):=by
  refine⟨?_,λ_ _ h=>h⟩
  intro b key hb hn
  refine⟨hb,rfl,?_⟩
  rintro o (h|⟨n,_,cs,h1,h2,_⟩)
  ·exact h
  ·rw[own n b cs h1 h2] at hb
   cases hb
   exact absurd rfl hn
 refine⟨⟨hf.len,λi t u h1 h2=>(hf.var i t u h1 h2).keep cX db (by simp[Key.isH]) (by simp[Key.isH]),λj t u h1 h2=>(hf.loc j t u h1 h2).keep cX db (by simp[Key.isH]) (by simp[Key.isH]),hf.tv,hf.tl,hf.defers,hf.gen,hf.owlt,?_,hf.heap.shutG (NV ns st.heap),?_⟩,cX⟩
 ·rintro b o (h|⟨n,_,cs,h1,h2,_⟩)
  ·exact hf.fixlt b o h
  ·exact hf.owlt _ _ (own n b cs h1 h2)
 ·intro n b h
  have:=hf.hdom n b h
  simp only[NX]; exact this
theorem DJ {xs:Array Operand} {us:List PV} (h1:xs.toList.length=us.length) (h2:∀(i:Nat) (x:Operand) (u:PV),xs.toList[i]? = some x→us[i]? = some u→VR N w G.fix G.heap (a.eval x) u∧cp u=some u):
  (xs.map a.eval).size=us.length∧∀(i:Nat) (v:Value) (p:PV),(xs.map a.eval)[i]? = some v→us[i]? = some p→VR N w G.fix G.heap v p:=by
 refine⟨by simpa using h1,?_⟩
 intro i v p hv hp
 simp only[bU,ab] at hv
 obtain⟨x,hx,rfl⟩:=hv
 exact(h2 i x p (by simpa using hx) hp).1
theorem b9e {L:Nat→Option PFunc} (hF:Al N P L) (hE:EnvOk E N) (nm:Names vs (yk vs ops)) (ho:ops[j]? = some o) (hf:FI N w G st a vs (yk vs ops)) {cf:yt} (dO:CallOK N P cf) (et:∀k args h r,cf k args h=some r→∃f,L k=some f)
  {f:FuncId} {k:Nat} {xs:Array Operand} {ts:Array TypeId} {pxs:List PX} (cZ:o.op = .call { callee := .value (.func f),args:=xs,argTypes:=ts }) (dt:E.inv f=some k) (hx:cxs E vs ops xs.toList=some pxs)
  (hs:opv cf (.pcall k pxs) st=some (u,st1)) (hk:yK N w G a st1 u vs ops j o next):o.wp P a w next Q:=by
 simp only[opv] at hs
 split at hs
 ·rename_i us eV
  split at hs
  ·rename_i dL
   split at hs
   ·rename_i r h' hc
    split at hs
    ·rename_i hr
     simp only[aa,ac] at hs
     obtain⟨rfl,rfl⟩:=hs
     obtain⟨h1,h2⟩:=Cr hE hf hx eV
     obtain⟨g1,g2⟩:=DJ (w:=w) (G:=G) h1 h2
     obtain⟨pf,hL⟩:=et _ _ _ _ hc
     have eH:=hE.fn _ _ dt
     refine Ug nm ho hf dO g1 g2 dL hc hr ?_ hk
     have:=Dg hF hL (xs.map a.eval) w
     rw[eH] at this
     rw[eH]
     simp[execOp,cZ,resolve,Act.eval,Deferred.ofValue,invoke]
     exact this
    ·simp at hs
   ·simp at hs
  ·simp at hs
 ·simp at hs
theorem b7U {L:Nat→Option PFunc} (hF:Al N P L) (hE:EnvOk E N) (nm:Names vs (yk vs ops)) (ho:ops[j]? = some o) (hf:FI N w G st a vs (yk vs ops)) {cf:yt} (dO:CallOK N P cf) (et:∀k args h r,cf k args h=some r→∃f,L k=some f)
  {f:FuncId} {k:Nat} {xs:Array Operand} {ts:Array TypeId} {pxs:List PX} (cZ:o.op = .call { callee := .value (.func f),args:=xs,argTypes:=ts }) (dt:E.inv f=some k) (hx:cxs E vs ops xs.toList=some pxs)
  (hs:opv cf (.pzcall k pxs) st=some (u,st1)) (hk:yK N w G a st1 u vs ops j o next):o.wp P a w next Q:=by
 simp only[opv] at hs
 split at hs
 ·rename_i us eV
  split at hs
  ·rename_i dL
   split at hs
   ·rename_i r h' hc
    split at hs
    ·rename_i hr
     simp only[aa,ac] at hs
     obtain⟨rfl,rfl⟩:=hs
     obtain⟨h1,h2⟩:=Cr hE hf hx eV
     obtain⟨g1,g2⟩:=DJ (w:=w) (G:=G) h1 h2
     obtain⟨pf,hL⟩:=et _ _ _ _ hc
     have eH:=hE.fn _ _ dt
     refine OW nm ho hf dO g1 g2 dL hc hr ?_ hk
     have:=Dg hF hL (xs.map a.eval) w
     rw[eH] at this
     rw[eH]
     simp[execOp,cZ,resolve,Act.eval,Deferred.ofValue,invoke]
     exact this
    ·simp at hs
   ·simp at hs
  ·simp at hs
 ·simp at hs
theorem VR.cp_or {N:Nm} {w:World} {fix:Nat→Nat→Prop} {hp:Nat→Option Nat} {v:Value} {p:PV} (h:VR N w fix hp v p):cp p=some p∨∃es,p = .list true es:=by
 cases h with
 | nils o=>cases o<;>simp[cp]
 | void o _ _=>cases o<;>simp[cp]
 | list o _ _ _ _ _ _ _ _ _ _ _ _ _=>cases o<;>simp[cp]
 | _=>exact .inl rfl
theorem Uh {E:Env} {vs:List Tmp} {ops:List Oper}:∀{xs:List Operand} {ps:List PX} {i:Nat} {p:PX},cxs E vs ops xs=some ps→ps[i]? = some p→∃x,xs[i]? = some x∧cx E vs ops x=some p
 | [],ps,i,p,h,hp=>by simp[cxs] at h; subst h; simp at hp
 | x :: xs, ps, i, p, h, hp => by
   simp only[cxs,aj,ab] at h
   obtain⟨q,h1,qs,h2,rfl⟩:=h
   cases i with
   | zero=>simp at hp; subst hp; exact⟨x,rfl,h1⟩
   | succ i =>
     have:=Uh (i:=i) h2 (by simpa using hp)
     simpa using this
def OY:Value→Option Nat
 | .slice (some a) _ _=>some a.block
 | _=>none
theorem Ui (nm:Names vs (yk vs ops)) (ho:ops[j]? = some o) (hd:yR vs o.dst≠.n) {G0:GS} (x8:Ext w G0 w G) (hf:FI N w G st a vs (yk vs ops)) {cf:yt} (dO:CallOK N P cf) {k:Nat} {own:Option Nat} {args:List PV} {vals:Array Value} {r:PV} {h':List PObj}
  (dj:vals.size=args.length) (hv:∀(i:Nat) (v:Value) (p:PV),vals[i]? = some v→args[i]? = some p→VR N w G.fix G.heap v p) (dL:yD args=true)
  (dJ:∀(i:Nat) (v:Value) (es:List PV),own=some i→vals[i]? = some v→args[i]? = some (.list true es)→Room w G (An (yR vs o.dst) j) v es)
  (hc:cf k (BY own args) []=some (r,h')) (hr:yC r=true)
  (da:(execOp a.eval o).run P w = .ok (.enter (N.fn k) vals) w) (hk:yK N w G0 a st r vs ops j o next):o.wp P a w next Q:=by
 classical
 unfold Oper.wp
 rw[da]
 let key:=An (yR vs o.dst) j
 let Gc:GS:={ fix:=G.fix,heap:=λ_=>none,box:=λ_=>none,ow:=λb=>own.bind λi=>if vals[i]?.bind OY=some b∧G.ow b=some key then some (.var i) else none }
 have sc:∀b k,Gc.ow b=some k→G.ow b=some key∧∃i,own=some i∧k = .var i:=by
  intro b k h
  simp only[Gc,aj] at h
  obtain⟨i,hi,h⟩:=h
  split at h
  ·rename_i hb
   simp only[aa] at h
   exact⟨hb.2,i,hi,h.symm⟩
  ·simp at h
 have dQ:OwnIn N w Gc own args vals:=by
  refine⟨λb k h=>(sc b k h).2,λ_=>rfl,λ_=>rfl,hf.fixlt,λb k h=>hf.owlt _ _ (sc b k h).1,hf.heap.2,dj,λi v p h1 h2=>(hv i v p h1 h2).free (Eg dL p (ax h2)),?_⟩
  intro i v es hi vR gf
  have h:=dJ i v es hi vR gf
  unfold Room at *
  split at h
  ·rename_i a' len cap
   rcases h with h|⟨h1,h2⟩
   ·exact .inl h
   ·refine .inr ⟨?_,h2⟩
    simp only[Gc,hi,vR,ar,OY,true_and]
    rw[af (show G.ow a'.block=some key from h1)]
  ·trivial
 refine((dO.own k own args r h' hc).2 w Gc vals dQ).mono ?_
 rintro e w' ⟨v,G2,rfl,di,he,gB,jt⟩
 let G':GS:={ G with fix:=G2.fix,ow:=λb=>if (∃es,r = .list true es)∧OY v=some b∧(w.heap.size≤b∨Gc.ow b≠none)∧b<w'.heap.size then some key else G.ow b }
 have eG:∀b k,G.ow b=some k→k≠key→Gc.ow b=none:=by
  intro b k h hn
  cases hx:Gc.ow b with
  | none=>rfl
  | some k' =>
    have:=(sc b k' hx).1
    rw[h] at this
    simp only[aa] at this
    exact absurd this hn
 have jP:∀b,G.ow b=none→Gc.ow b=none:=by
  intro b h
  cases hx:Gc.ow b with
  | none=>rfl
  | some k'=>have:=(sc b k' hx).1; rw[h] at this; simp at this
 have cX:Ext w G w' G':=by
  refine⟨he.os,he.tape,he.output,he.size,λb dc h=>he.same b dc (jP b h),λb o h=>he.fix b o h,?_,?_,λ_ _ h=>h,he.shape,rfl⟩
  ·intro b o h
   rcases he.newfix b o h with h|h|h
   ·exact .inl h
   ·exact .inr (.inl h)
   ·exact .inr (.inr λe=>h (jP b e))
  ·intro b h
   simp only[G'] at h
   split at h
   ·rename_i hb
    rcases hb.2.2.1 with h1|h1
    ·exact .inl h1
    ·exact .inr λe=>h1 (jP b e)
   ·exact .inr h
 have db:zu (λk=>k=key) w G w' G':=by
  refine⟨?_,λ_ _ h=>h⟩
  intro b k dn hn
  have eK:=hf.owlt _ _ dn
  have h0:=eG b k dn hn
  refine⟨?_,he.same b eK h0,?_⟩
  ·simp only[G']
   rw[ae]
   ·exact dn
   ·rintro⟨_,_,h1|h1,_⟩
    ·omega
    ·exact h1 h0
  ·intro o h
   rcases he.newfix b o h with h|h|h
   ·exact h
   ·omega
   ·exact absurd h0 h
 have how:∀b k,G'.ow b=some k→b<w'.heap.size:=by
  intro b k h
  simp only[G'] at h
  split at h
  ·rename_i hb; exact hb.2.2.2
  ·exact aP (hf.owlt _ _ h) he.size
 have gD:VR N w' G'.fix G'.heap v r:=di.free hr
 have ru:SR N w' G' key v r:=by
  rcases gD.cp_or with h|⟨es,rfl⟩
  ·exact SR.of_pure gD h
  ·refine⟨gD,?_⟩
   have h:=jt es rfl
   unfold Room
   unfold FM at h
   split at h
   ·rename_i a' len cap
    rcases h with h|⟨h1,sz,cs,T,h2,h3,h4⟩
    ·exact .inl h
    ·refine .inr ⟨?_,sz,cs,T,h2,h3,h4⟩
     simp only[G']
     rw[af]
     exact⟨⟨es,rfl⟩,rfl,h1,let ⟨fz,h5,_⟩:=h3; (aX.1 h5).1⟩
   ·rename_i hx
    split
    ·rename_i a' len cap; exact absurd rfl (hx _ _ _)
    ·trivial
 exact hk _ _ G' (hf.extDst nm (BH ho) hd cX db (λg b h=>hf.gen g b h) how gB rfl ru) (x8.trans cX) (BJ _ _ _)
theorem b7V {L:Nat→Option PFunc} (hF:Al N P L) (hE:EnvOk E N) (nm:Names vs (yk vs ops)) (ho:ops[j]? = some o) (hd:yR vs o.dst≠.n) (hf:FI N w G st a vs (yk vs ops)) {cf:yt} (dO:CallOK N P cf) (et:∀k args h r,cf k args h=some r→∃f,L k=some f)
  {f:FuncId} {k:Nat} {xs:Array Operand} {ts:Array TypeId} {pxs:List PX} {own:Option Nat} (cZ:o.op = .call { callee := .value (.func f),args:=xs,argTypes:=ts }) (dt:E.inv f=some k) (hx:cxs E vs ops xs.toList=some pxs)
  (hs:opv cf (.pcallx k pxs own) st=some (u,st1)) (hk:yK N w G a st1 u vs ops j o next):o.wp P a w next Q:=by
 have da:∀{args:List PV} {h:List PObj} {r},cf k args h=some r→(execOp a.eval o).run P w = .ok (.enter (N.fn k) (xs.map a.eval)) w:=by
  intro args h r hc
  obtain⟨pf,hL⟩:=et _ _ _ _ hc
  have eH:=hE.fn _ _ dt
  have:=Dg hF hL (xs.map a.eval) w
  rw[eH] at this
  rw[eH]
  simp[execOp,cZ,resolve,Act.eval,Deferred.ofValue,invoke]
  exact this
 simp only[opv] at hs
 split at hs
 ·split at hs
  ·rename_i us eV
   split at hs
   ·rename_i dL
    split at hs
    ·rename_i r h' hc
     split at hs
     ·rename_i hr
      simp only[aa,ac] at hs
      obtain⟨rfl,rfl⟩:=hs
      obtain⟨h1,h2⟩:=Cr hE hf hx eV
      obtain⟨g1,g2⟩:=DJ (w:=w) (G:=G) h1 h2
      exact Ui nm ho hd (Ext.refl _ _) hf dO g1 g2 dL (by intro i v es h; simp at h) hc hr (da hc) hk
     ·simp at hs
    ·simp at hs
   ·simp at hs
  ·simp at hs
 ·rename_i i
  split at hs
  ·rename_i v0 st2 us ht eV
   split at hs
   ·rename_i dL
    split at hs
    ·rename_i r h' hc
     split at hs
     ·rename_i hr
      simp only[aa,ac] at hs
      obtain⟨rfl,rfl⟩:=hs
      simp only[aj] at ht
      obtain⟨px,gn,ht⟩:=ht
      obtain⟨h1,h2⟩:=Cr hE hf hx eV
      obtain⟨g1,g2⟩:=DJ (w:=w) (G:=G) h1 h2
      obtain⟨x,mb,iH⟩:=Uh hx gn
      obtain⟨G',k1,k2,k3,k4,k5,k6,k7,_⟩:=GR hE iH hf ht (An (yR vs o.dst) j)
      refine Ui nm ho hd k2 k1 dO (by rw[aZ]; exact g1) ?_ dL.1 ?_ hc hr (da hc) hk
      ·intro i' v p hv hp
       rw[k4,k5]
       rw[aO] at hp
       split at hp
       ·rename_i he
        subst he
        split at hp
        ·simp only[aa] at hp
         subst hp
         simp only[bU,ab] at hv
         obtain⟨x',eT,rfl⟩:=hv
         have:x'=x:=by rw[← bM,mb] at eT; simpa using eT.symm
         subst this
         exact k6
        ·simp at hp
       ·exact g2 i' v p hv hp
      ·intro i' v es hi hv gf
       simp only[aa] at hi
       subst hi
       rw[aO] at gf
       simp only[if_true,dL.2,aa] at gf
       subst gf
       simp only[bU,ab] at hv
       obtain⟨x',eT,rfl⟩:=hv
       have:x'=x:=by rw[← bM,mb] at eT; simpa using eT.symm
       subst this
       exact k7
     ·simp at hs
    ·simp at hs
   ·simp at hs
  ·simp at hs
theorem b9g {L:Nat→Option PFunc} (hF:Al N P L) (hE:EnvOk E N) (nm:Names vs (yk vs ops)) (ho:ops[j]? = some o) (hf:FI N w G st a vs (yk vs ops)) {cf:yt} (dO:CallOK N P cf) (et:∀k args h r,cf k args h=some r→∃f,L k=some f)
  {t:Tmp} {px:PX} {xs:Array Operand} {ts:Array TypeId} {pxs:List PX} (cZ:o.op = .call { callee := .value (.tmp t),args:=xs,argTypes:=ts }) (gn:cx E vs ops (.tmp t)=some px) (hx:cxs E vs ops xs.toList=some pxs)
  (hs:opv cf (.callv px pxs) st=some (u,st1)) (hk:yK N w G a st1 u vs ops j o next):o.wp P a w next Q:=by
 simp only[opv] at hs
 split at hs
 ·rename_i k first captured us ny eV
  split at hs
  ·rename_i dL
   split at hs
   ·rename_i r h' hc
    split at hs
    ·rename_i hr
     simp only[aa,ac] at hs
     obtain⟨rfl,rfl⟩:=hs
     obtain⟨h1,h2⟩:=Cr hE hf hx eV
     obtain⟨g1,g2⟩:=DJ (w:=w) (G:=G) h1 h2
     obtain⟨pf,hL⟩:=et _ _ _ _ hc
     have jf:=(yT hE gn hf ny).1
     generalize hv:a.eval (.tmp t)=v at jf
     cases jf with
     | yield _ _ _ _ _ _ hy=>rw[(dO.plain _ _ _ _ _ hc).1] at hy; simp at hy
     | func _ fs cs _ _ _ e1 e2 mI d9 =>
       refine Ug (vals:=fs++xs.map a.eval++cs) nm ho hf dO (by simp[e1,e2]; simpa using h1) ?_ dL hc hr ?_ hk
       ·intro i v p ea hp
        by_cases hi:i<fs.size
        ·rw[co,bp hi] at ea
         rw[aI,al (by omega)] at hp
         exact mI i v p ea hp
        ·rw[co,cq (by omega)] at ea
         rw[aI,aq (by omega),← e1] at hp
         by_cases ez:i - fs.size<(xs.map a.eval).size
         ·rw[bp ez] at ea
          rw[al (by omega)] at hp
          exact g2 _ v p ea hp
         ·rw[cq (by omega)] at ea
          rw[aq (by omega),← g1] at hp
          exact d9 _ v p ea hp
       ·have:=Dg hF hL (fs++xs.map a.eval++cs) w
        simp only[execOp,cZ,resolve,Sem.run_bind,hv,Deferred.ofValue,Sem.run_pure,Result.andThen_ok,invoke]
        exact this
    ·simp at hs
   ·simp at hs
  ·simp at hs
 ·simp at hs
theorem Uj {L:Nat→Option PFunc} (hF:Al N P L) (hE:EnvOk E N) (nm:Names vs (yk vs ops)) (ho:ops[j]? = some o) (hf:FI N w G st a vs (yk vs ops)) {cf:yt} (dO:CallOK N P cf) (et:∀k args h r,cf k args h=some r→∃f,L k=some f)
  {f:FuncId} {k:Nat} {xs:Array Operand} {ts:Array TypeId} {pxs:List PX} (cZ:o.op = .call { callee := .value (.func f),args:=xs,argTypes:=ts }) (dt:E.inv f=some k) (hx:cxs E vs ops xs.toList=some pxs)
  (hs:yo cf (.call k pxs) st=some (u,st1)) (hk:yK N w G a st1 u vs ops j o next):o.wp P a w next Q:=by
 simp only[yo,aj,ab,ac] at hs
 obtain⟨us,eV,⟨r,h'⟩,hc,rfl,rfl⟩:=hs
 obtain⟨h1,h2⟩:=Cr hE hf hx eV
 obtain⟨g1,g2⟩:=DJ (w:=w) (G:=G) h1 h2
 obtain⟨pf,hL⟩:=et _ _ _ _ hc
 have eH:=hE.fn _ _ dt
 refine OX nm ho hf dO g1 g2 hc ?_ hk
 have:=Dg hF hL (xs.map a.eval) w
 rw[eH] at this
 rw[eH]
 simp[execOp,cZ,resolve,Act.eval,Deferred.ofValue,invoke]
 exact this
theorem b9h {L:Nat→Option PFunc} (hF:Al N P L) (hE:EnvOk E N) (nm:Names vs (yk vs ops)) (ho:ops[j]? = some o) (hf:FI N w G st a vs (yk vs ops)) {cf:yt} (dO:CallOK N P cf) (et:∀k args h r,cf k args h=some r→∃f,L k=some f)
  {f:FuncId} {k:Nat} {xs:Array Operand} {ts:Array TypeId} {pxs:List PX} (cZ:o.op = .call { callee := .value (.func f),args:=xs,argTypes:=ts }) (dt:E.inv f=some k) (hx:cxs E vs ops xs.toList=some pxs)
  (hs:yo cf (.zcall k pxs) st=some (u,st1)) (hk:yK N w G a st1 u vs ops j o next):o.wp P a w next Q:=by
 simp only[yo,aj] at hs
 obtain⟨us,eV,hs⟩:=hs
 split at hs
 ·rename_i dL
  simp only[aj] at hs
  obtain⟨⟨r,h'⟩,hc,hs⟩:=hs
  split at hs
  ·rename_i hr
   simp only[aa,ac] at hs
   obtain⟨rfl,rfl⟩:=hs
   obtain⟨h1,h2⟩:=Cr hE hf hx eV
   obtain⟨g1,g2⟩:=DJ (w:=w) (G:=G) h1 h2
   obtain⟨pf,hL⟩:=et _ _ _ _ hc
   have eH:=hE.fn _ _ dt
   obtain⟨dD,mb⟩:=hf.freeze (DL us)
   rw[GU] at hc dL
   refine OW nm ho dD dO (vals:=xs.map a.eval) (by rw[aG]; exact g1) ?_ dL hc hr ?_ λa' w' G2 k1 k2 k3=>hk a' w' G2 k1 (mb.trans k2) k3
   ·intro i v p hv hp
    rw[aF,ab] at hp
    obtain⟨q,hq,rfl⟩:=hp
    refine OU hf.heap (g2 i v q hv hq) (λn hn =>?_)
    rw[GV]
    exact bN.2 ⟨q,ax hq,hn⟩
   ·have:=Dg hF hL (xs.map a.eval) w
    rw[eH] at this
    rw[eH]
    simp[execOp,cZ,resolve,Act.eval,Deferred.ofValue,invoke]
    exact this
  ·simp at hs
 ·simp at hs
theorem c8j (T:TypeId) (ad:Addr) (a b:String):Builtin.ssaWrapNilChk_ #[T] T #[.pointer (some ad),strVal a,strVal b]=pure (.pointer (some ad)):=rfl
theorem c1p {T e:TypeId} {m:Method} {i:TypeInfo} {f:FuncId} {pr:Bool} {v r:Value} {name:String} (hi:P.info? T=some i) (hm:i.methods.find? (·.name==name)=some m) (hp:m.path.isEmpty=true) (eH:m.func=some (f,pr))
  (hu:P.underlying T=some (.pointer e)) (hr:(pr=true∧r=v)∨(pr=false∧∃ad,v = .pointer (some ad)∧(loadVar e ad).run P w = .ok r w)) (n:Nat):(method (n+1) T v name).run P w = .ok (f,r) w:=by
 have fB:m.path.toList=[]:=by simpa using hp
 have mg:=run_typeInfo w hi
 have ic:=run_underlying hu w
 simp only[method,Sem.run_bind,mg,Result.andThen_ok,hm,fB,follow,Sem.run_pure,eH,hp,if_true]
 rcases hr with⟨rfl,rfl⟩|⟨rfl,ad,rfl,hl⟩
 ·simp only[receiverAt,Sem.run_bind,ic,Result.andThen_ok,Place.get,Sem.run_pure]
 ·simp only[receiverAt,Sem.run_bind,ic,Result.andThen_ok,Place.get,Sem.run_pure,c8j,asAddr,hl]
theorem OZ {E:Env} {name:String} {t:Nat} {r:Nat×Option (Nat×Bool)}:∀{Ts:List TypeId},Cw t (FL E name Ts)=some r→∃T i,zQ T E.pt 0=some i∧t=i+1∧mOf E name T=some r
 | [],h=>by simp[FL,Cw] at h
 | T :: Ts, h => by
   unfold FL at h
   split at h
   ·rename_i i q hi hq
    unfold Cw at h
    split at h
    ·rename_i e
     simp only[aa] at h; subst h
     exact⟨T,i,hi,e.symm,hq⟩
    ·exact OZ h
   ·exact OZ h
theorem b9i {L:Nat→Option PFunc} (hF:Al N P L) (hE:EnvOk E N) (hP:E.P=P) (nm:Names vs (yk vs ops)) (ho:ops[j]? = some o) (hf:FI N w G st a vs (yk vs ops)) {cf:yt} (dO:CallOK N P cf) (et:∀k args h r,cf k args h=some r→∃f,L k=some f)
  {name:String} {x:Operand} {px:PX} {xs:Array Operand} {ts:Array TypeId} {pxs:List PX} (cZ:o.op = .call { callee := .invoke x name,args:=xs,argTypes:=ts }) (gn:cx E vs ops x=some px) (hx:cxs E vs ops xs.toList=some pxs)
  (hs:yo cf (.icall (FL E name E.pt) px pxs) st=some (u,st1)) (hk:yK N w G a st1 u vs ops j o next):o.wp P a w next Q:=by
 subst hP
 simp only[yo,aj,ab,ac] at hs
 obtain⟨⟨k,rv⟩,hm,us,eV,⟨r,h'⟩,hc,rfl,rfl⟩:=hs
 unfold BV at hm
 split at hm
 ·rename_i t v hp
  simp only[aj,ab,ac] at hm
  obtain⟨⟨k',d⟩,uN,rv',oV,rfl,rfl⟩:=hm
  obtain⟨T,i,hi,rfl,lW⟩:=OZ uN
  have ht:=hE.pt T i hi
  have hv:=(yT hE gn hf hp).1
  obtain⟨h1,h2⟩:=Cr hE hf hx eV
  obtain⟨g1,g2⟩:=DJ (w:=w) (G:=G) h1 h2
  obtain⟨pf,hL⟩:=et _ _ _ _ hc
  generalize fN:a.eval x=z at hv
  cases hv with
  | iface _ v0 _ hv =>
    obtain⟨f,pr,m,ti,e,oW,k1,k2,k3,k4,k5,rr,k6,k7⟩:∃(f:FuncId) (pr:Bool) (m:Method) (ti:TypeInfo) (e:TypeId),N.fn k'=f∧E.P.info? T=some ti∧ti.methods.find? (·.name==name)=some m∧m.path.isEmpty=true∧m.func=some (f,pr)∧E.P.underlying T=some (.pointer e) ∧
      ∃r:Value,((pr=true∧r=v0)∨(pr=false∧∃ad,v0 = .pointer (some ad)∧(loadVar e ad).run E.P w = .ok r w))∧VR N w G.fix G.heap r rv':=by
     unfold mOf at lW
     split at lW
     ·rename_i m rD
      simp only[aj] at rD
      obtain⟨ti,a1,a2⟩:=rD
      split at lW
      ·rename_i a3
       split at lW
       ·rename_i f e a4 a5
        simp only[ab,ac] at lW
        obtain⟨k0,a6,rfl,rfl⟩:=lW
        simp only[CJ,aa] at oV
        subst oV
        exact⟨f,true,m,ti,e,hE.fn _ _ a6,a1,a2,a3,a4,a5,v0,.inl ⟨rfl,rfl⟩,hv.dem⟩
       ·rename_i f e a4 a5
        simp only[aj,ab,ac] at lW
        obtain⟨k0,a6,n,a7,rfl,rfl⟩:=lW
        simp only[CJ] at oV
        split at oV
        ·rename_i mm off
         simp only[aj] at oV
         obtain⟨cs,hg,uh⟩:=oV
         cases hv with
         | ptr _ _ b hb =>
           have eY:n≠0:=by obtain⟨_,_,_,_,h,_⟩:=Be a7; exact h
           obtain⟨eN,gS,cv,TT,hh,hl,fy⟩:=FT hf hg hb
           obtain⟨hR,hcell⟩:=NZ hh hl fy
           obtain⟨q1,q2,q3⟩:=Gy hR uh eY (ED a7)
           have da:=Gz (w:=w) a7 b off ((cv.toList.take cs.length).drop off) (by simp at q1 ⊢; omega) (λj v hv=>by
            rw[bc] at hv
            exact hcell _ _ hv)
           exact⟨f,false,m,ti,e,hE.fn _ _ a6,a1,a2,a3,a4,a5,_,.inr ⟨rfl,_,rfl,da⟩,q2⟩
        ·simp at oV
       ·simp at lW
      ·simp at lW
     ·simp at lW
    have da:=c1p (w:=w) k1 k2 k3 k4 k5 k6
    have dr:=Dg hF hL (#[rr]++xs.map a.eval) w
    rw[oW] at dr
    refine OX (vals := #[rr]++xs.map a.eval) nm ho hf dO (by simp[g1]; omega) ?_ hc ?_ hk
    ·intro i v p ip gW
     cases i with
     | zero =>
       rw[bp (by simp)] at ip
       simp at ip gW
       subst ip gW
       exact k7
     | succ i=>exact g2 i v p (by simpa[Array.getElem?_append] using ip) (by simpa using gW)
    ·have uO:∃n,E.P.types.size+Made.depth=n+1:=⟨E.P.types.size+Made.depth - 1,by simp[Made.depth]⟩
     obtain⟨fu,uO⟩:=uO
     have ov:(xs.map a.eval).extract 0 xs.size=xs.map a.eval:=by
      rw[← Array.size_map (f:=a.eval)]
      exact Array.extract_size
     have h0:(#[Value.iface T v0]++xs.map a.eval)[0]? = some (.iface T v0):=by
      rw[bp (by simp)]
      rfl
     rw[oW]
     simp only[execOp,cZ,resolve,fN,ht,Sem.run_bind,Sem.run_pure,Result.andThen_ok,invoke,callMethod]
     simp[uO,run_program,h0,da,ov,dr]
 ·simp at hm
theorem b7W {L:Nat→Option PFunc} (hF:Al N P L) (hE:EnvOk E N) (nm:Names vs (yk vs ops)) (ho:ops[j]? = some o) (hf:FI N w G st a vs (yk vs ops)) {cf:yt} (dO:CallOK N P cf) (et:∀k args h r,cf k args h=some r→∃f,L k=some f)
  {t:Tmp} {px:PX} {xs:Array Operand} {ts:Array TypeId} {pxs:List PX} (cZ:o.op = .call { callee := .value (.tmp t),args:=xs,argTypes:=ts }) (gn:cx E vs ops (.tmp t)=some px) (hx:cxs E vs ops xs.toList=some pxs)
  (hs:yo cf (.callv px pxs) st=some (u,st1)) (hk:yK N w G a st1 u vs ops j o next):o.wp P a w next Q:=by
 simp only[yo] at hs
 split at hs
 ·rename_i k first captured us ny eV
  simp only[ab,ac] at hs
  obtain⟨⟨r,h'⟩,hc,rfl,rfl⟩:=hs
  obtain⟨h1,h2⟩:=Cr hE hf hx eV
  obtain⟨g1,g2⟩:=DJ (w:=w) (G:=G) h1 h2
  obtain⟨pf,hL⟩:=et _ _ _ _ hc
  have jf:=(yT hE gn hf ny).1
  generalize hv:a.eval (.tmp t)=v at jf
  cases jf with
  | yield _ _ _ _ _ _ hy=>rw[(dO.plain _ _ _ _ _ hc).1] at hy; simp at hy
  | func _ fs cs _ _ _ e1 e2 mI d9 =>
    refine OX (vals:=fs++xs.map a.eval++cs) nm ho hf dO (by simp[e1,e2]; simpa using h1) ?_ hc ?_ hk
    ·intro i v p ea hp
     by_cases hi:i<fs.size
     ·rw[co,bp hi] at ea
      rw[aI,al (by omega)] at hp
      exact mI i v p ea hp
     ·rw[co,cq (by omega)] at ea
      rw[aI,aq (by omega),← e1] at hp
      by_cases ez:i - fs.size<(xs.map a.eval).size
      ·rw[bp ez] at ea
       rw[al (by omega)] at hp
       exact g2 _ v p ea hp
      ·rw[cq (by omega)] at ea
       rw[aq (by omega),← g1] at hp
       exact d9 _ v p ea hp
    ·have:=Dg hF hL (fs++xs.map a.eval++cs) w
     simp only[execOp,cZ,resolve,Sem.run_bind,hv,Deferred.ofValue,Sem.run_pure,Result.andThen_ok,invoke]
     exact this
 ·simp at hs
theorem c3g {L:Nat→Option PFunc} (hF:Al N P L) (hE:EnvOk E N) (hP:E.P=P) (nm:Names vs (yk vs ops)) (ho:ops[j]? = some o) (hf:FI N w G st a vs (yk vs ops)) {cf:yt} (dO:CallOK N P cf)
  (et:∀k args h r,cf k args h=some r→∃f,L k=some f) {po:HOp} (hc:NU E vs ops o=some po) (hs:yo cf po st=some (u,st1)) (hk:yK N w G a st1 u vs ops j o next):o.wp P a w next Q:=by
 subst hP
 unfold NU at hc
 split at hc
 ·rename_i t cZ
  split at hc
  ·simp at hc
  ·simp only[ab] at hc
   obtain⟨z,hz,rfl⟩:=hc
   exact b7X nm ho hf cZ hz hs hk
 ·rename_i t x cZ
  split at hc
  ·simp at hc
  ·simp only[aj,ab] at hc
   obtain⟨n,hn,p,hp,rfl⟩:=hc
   exact b7Y hE nm ho hf cZ hn hp hs hk
 ·rename_i t x cZ
  split at hc
  ·simp only[aj,ab] at hc
   obtain⟨n,hn,p,hp,rfl⟩:=hc
   split at hs
   ·rename_i de
    simp only[ap,bG] at de
    exact b9n hE nm ho hf cZ hn de.2 hp hs hk
   ·exact Uk hE nm ho hf cZ hn hp hs hk
  ·split at hc
   ·simp only[aj,ab] at hc
    obtain⟨n,hn,p,hp,rfl⟩:=hc
    exact b9l hE nm ho hf cZ hn hp hs hk
   ·simp at hc
 ·rename_i t x y cZ
  split at hc
  ·rename_i hd
   simp only[aj,ab] at hc
   obtain⟨n,hn,p,hp,q,hq,hc⟩:=hc
   split at hc
   ·subst hc
    exact b6d hE nm ho hf cZ hd.1 hn hp hq hs hk
   ·subst hc
    exact Ul hE nm ho hf cZ hd.1 hn hp hq hs hk
  ·simp at hc
 ·rename_i t len parts cZ
  split at hc
  ·split at hc
   ·rename_i e hu
    split at hc
    ·rename_i size z hn hz
     split at hc
     ·rename_i cY
      simp only[ab] at hc
      obtain⟨ps,ey,rfl⟩:=hc
      exact b9o hE nm ho hf cZ hu hn hz cY ey hs hk
     ·simp at hc
    ·simp at hc
   ·simp at hc
  ·simp at hc
 ·rename_i t cZ
  split at hc
  ·simp at hc
  ·simp only[aa] at hc
   subst hc
   exact b9j nm ho hf cZ hs hk
 ·rename_i t m k ok cZ
  split at hc
  ·rename_i kt e hu
   simp only[aj,ab] at hc
   obtain⟨kk,fH,z,hz,p,hp,q,hq,rfl⟩:=hc
   exact b70 hE nm ho hf cZ hu fH hz hp hq hs hk
  ·simp at hc
 ·rename_i t m k v cZ
  split at hc
  ·rename_i kt e hu
   split at hc
   ·rename_i hd
    simp only[aj,ab] at hc
    obtain⟨kk,fH,p,hp,q,hq,r,hr,rfl⟩:=hc
    exact Um hE nm ho hf (.inl cZ) hd hu fH hp hq hr hs hk
   ·simp at hc
  ·simp at hc
 ·rename_i t m k v cZ
  split at hc
  ·rename_i kt e hu
   split at hc
   ·rename_i hd
    simp only[aj,ab] at hc
    obtain⟨kk,fH,p,hp,q,hq,r,hr,rfl⟩:=hc
    exact Um hE nm ho hf (.inr cZ) hd hu fH hp hq hr hs hk
   ·simp at hc
  ·simp at hc
 ·rename_i op t x y t' cZ
  split at hc
  ·rename_i de
   simp only[aj,ab] at hc
   obtain⟨kd,x9,p,hp,rfl⟩:=hc
   exact b9k hE nm ho hf cZ de x9 hp hs hk
  ·simp at hc
 ·rename_i x cZ
  simp only[ab] at hc
  obtain⟨p,hp,rfl⟩:=hc
  exact b72 hE nm ho hf cZ hp hs hk
 ·rename_i t l c' cZ
  split at hc
  ·rename_i e hu
   split at hc
   ·rename_i size z hn hz
    split at hc
    ·simp at hc
    ·rename_i de
     simp only[bL,not_or,Bool.not_eq_true,Bool.not_eq_false'] at de
     simp only[ab] at hc
     obtain⟨p,hp,rfl⟩:=hc
     split at hs
     ·exact b6f hE nm ho hf cZ hu hn hz de.2 hp hs hk
     ·exact b9m hE nm ho hf cZ hu hn hz de.2 hp hs hk
   ·simp at hc
  ·simp at hc
 ·rename_i t parts cZ
  split at hc
  ·rename_i fs hu
   simp only at hc
   split at hc
   ·simp at hc
   ·split at hc
    ·rename_i places z fl hz
     simp only[ab] at hc
     obtain⟨ps,ey,rfl⟩:=hc
     refine b73 hE nm ho hf cZ hu hz fl ?_ ey hs hk
     intro j' kM
     obtain⟨p,_,hp⟩:=List.mem_filterMap.1 kM
     obtain⟨t',_,h2⟩:=c2A hp
     exact d2f h2
    ·simp at hc
  ·simp at hc
 ·rename_i fn xs ys cZ
  split at hc
  ·simp at hc
  ·simp only[aj,ab] at hc
   obtain⟨f,eH,k,dt,ps,ey,qs,kR,rfl⟩:=hc
   have:fn = .func f:=by
    unfold SL at eH
    split at eH
    ·simp at eH; subst eH; rfl
    ·simp at eH
   subst this
   exact b71 hE nm ho hf cZ dt ey kR hs hk
 ·rename_i args ts cZ
  obtain⟨args⟩:=args
  obtain⟨ts⟩:=ts
  split at hc
  ·rename_i s x t1 t2 em ft
   simp only at em ft
   subst em ft
   split at hc
   ·split at hc
    ·rename_i e e' hu gC
     split at hc
     ·rename_i size z hn hz
      simp only[aj,ab] at hc
      obtain⟨p,hp,q,hq,rfl⟩:=hc
      exact c1w hE nm ho hf cZ hu gC hn hz hp hq hs hk
     ·simp at hc
    ·rename_i e k0 hu gC
     split at hc
     ·rename_i size z hn hz
      simp only[aj,ab] at hc
      obtain⟨p,hp,q,hq,rfl⟩:=hc
      exact b9p hE nm ho hf cZ hu gC hn hz hp hq hs hk
     ·simp at hc
    ·simp at hc
   ·simp at hc
  ·simp at hc
 ·rename_i args ts cZ
  obtain⟨args⟩:=args
  obtain⟨ts⟩:=ts
  split at hc
  ·rename_i x t rest em ft
   simp only at em ft
   subst em ft
   split at hc
   ·rename_i e hu
    split at hc
    ·rename_i eY
     simp only[aj,ab] at hc
     obtain⟨size,hn,z,hz,p,hp,rfl⟩:=hc
     have eL:o.dst=none:=by
      unfold isN yR at eY
      split at eY
      ·rename_i hd
       split at hd
       ·assumption
       ·split at hd<;>simp at hd
      ·simp at eY
     exact b9q hE nm ho hf eL cZ hu hn hz hp hs hk
    ·simp at hc
   ·simp at hc
  ·simp at hc
 ·rename_i f args ts cZ
  split at hc
  ·simp only[aj,ab] at hc
   obtain⟨k,dt,ps,ey,rfl⟩:=hc
   split at hs
   ·refine Uj hF hE nm ho hf dO et cZ dt ey ?_ hk
    simp only[yo,aj,same] at hs ⊢
    obtain⟨us,h1,r,h2,h3⟩:=hs
    split at h3
    ·rename_i he
     simp only[aa,ac] at h3
     obtain⟨rfl,rfl⟩:=h3
     exact⟨us,h1,by rw[h2,aC,he]⟩
    ·simp at h3
   ·split at hs
    ·exact b9h hF hE nm ho hf dO et cZ dt ey hs hk
    ·exact Uj hF hE nm ho hf dO et cZ dt ey hs hk
  ·simp at hc
 ·rename_i x name args ts cZ
  simp only[aj,ab] at hc
  obtain⟨p,hp,ps,ey,rfl⟩:=hc
  exact b9i hF hE rfl nm ho hf dO et cZ hp ey hs hk
 ·rename_i t args ts cZ
  split at hc
  ·simp only[aj,ab] at hc
   obtain⟨p,hp,ps,ey,rfl⟩:=hc
   exact b7W hF hE nm ho hf dO et cZ hp ey hs hk
  ·simp at hc
 ·simp at hc
theorem c5j {L:Nat→Option PFunc} (hF:Al N P L) (hE:EnvOk E N) (hP:E.P=P) (nm:Names vs (yk vs ops)) (ho:ops[j]? = some o) (hf:FI N w G st a vs (yk vs ops)) {cf:yt} (dO:CallOK N P cf)
  (et:∀k args h r,cf k args h=some r→∃f,L k=some f) {po:POp} (hc:cOp E vs ops o=some po) (hs:opv cf po st=some (u,st1)) (hk:yK N w G a st1 u vs ops j o next):o.wp P a w next Q:=by
 unfold cOp at hc
 simp only at hc
 split at hc
 ·rename_i h uc
  simp only[aa] at hc
  subst hc
  exact c3g hF hE hP nm ho hf dO et uc (by simpa[opv] using hs) hk
 rename_i eG
 subst hP
 split at hc
 ·
  rename_i x cZ
  simp only[ab] at hc
  obtain⟨p,hp,rfl⟩:=hc
  split at hs
  ·exact T9 hE nm ho hf (by simp[execOp,cZ]) hp (by simpa[opv] using hs) hk
  ·exact c3a hE nm ho hf (by simp[execOp,cZ]) hp (by simpa[opv] using hs) hk
 ·rename_i x cZ
  simp only[ab] at hc
  obtain⟨p,hp,rfl⟩:=hc
  exact T9 hE nm ho hf (by simp[execOp,cZ]) hp (by simpa[opv] using hs) hk
 ·rename_i x y z cZ
  simp only[aj,ab] at hc
  obtain⟨px,gn,pa,pB,pb,yc,rfl⟩:=hc
  exact c1g hE nm ho hf cZ gn pB yc hs hk
 ·rename_i t cZ
  split at hc
  ·rename_i hv
   simp only[ab] at hc
   obtain⟨z,hz,rfl⟩:=hc
   exact b7O nm ho hf cZ hz hv hs hk
  ·simp at hc
 ·rename_i t x cZ
  split at hc
  ·rename_i hv
   simp only[aj,ab] at hc
   obtain⟨n,hn,p,hp,rfl⟩:=hc
   exact b7P hE nm ho hf cZ hn hp hv hs hk
  ·simp at hc
 ·rename_i t parts cZ
  split at hc
  ·rename_i fs z hu hz
   split at hc
   ·rename_i places fl
    simp only[ab] at hc
    obtain⟨ps,ey,rfl⟩:=hc
    exact T8 hE nm ho hf cZ hu hz fl ey hs hk
   ·simp at hc
  ·simp at hc
 ·rename_i t len parts cZ
  split at hc
  ·rename_i e hu
   split at hc
   ·rename_i size z hn hz
    split at hc
    ·rename_i cY
     simp only[ab] at hc
     obtain⟨ps,ey,rfl⟩:=hc
     exact b55 hE nm ho hf cZ hu hn hz cY ey hs hk
    ·simp at hc
   ·simp at hc
  ·simp at hc
 ·rename_i t x cZ
  simp only[aj,ab] at hc
  obtain⟨n,hn,p,hp,rfl⟩:=hc
  exact c1m hE nm ho hf cZ hn hp hs hk
 ·rename_i t x y cZ
  split at hc
  ·rename_i hd
   simp only[aj,ab] at hc
   obtain⟨n,hn,p,hp,q,hq,rfl⟩:=hc
   exact b9b hE nm ho hf cZ hd hn hp hq hs hk
  ·simp at hc
 ·rename_i s x f cZ
  split at hc
  ·rename_i fs hu
   split at hc
   ·rename_i fd lz
    simp only[aj,ab] at hc
    obtain⟨n,hn,p,hp,rfl⟩:=hc
    exact b9a hE nm ho hf cZ hu lz hn hp hs hk
   ·simp at hc
  ·simp at hc
 ·rename_i t x i cZ
  split at hc
  ·rename_i e hu
   simp only[aj,ab] at hc
   obtain⟨n,hn,p,hp,q,hq,rfl⟩:=hc
   exact b7F hE nm ho hf cZ hu hn hp hq hs hk
  ·simp at hc
 ·rename_i t x i cZ
  split at hc
  ·rename_i hu
   simp only[aj,ab] at hc
   obtain⟨p,hp,q,hq,rfl⟩:=hc
   exact b4x hE nm ho hf cZ hu hp hq hs hk
  ·simp at hc
 ·rename_i t x lo hi cZ
  split at hc
  ·rename_i hu
   simp only[aj,ab] at hc
   obtain⟨p,hp,pl,hl,ph,hh,rfl⟩:=hc
   exact b7L hE nm ho hf cZ hu hp hl hh hs hk
  ·rename_i e hu
   simp only[aj,ab] at hc
   obtain⟨n,hn,p,hp,pl,hl,ph,hh,rfl⟩:=hc
   exact b7M hE nm ho hf cZ hu hn hp hl hh hs hk
  ·simp at hc
 ·rename_i op t x y t' cZ
  split at hc
  ·rename_i gO
   split at hc
   ·rename_i agg ks ht
    simp only[aj,ab] at hc
    obtain⟨p,hp,q,hq,rfl⟩:=hc
    exact c5f hE rfl nm ho hf cZ gO ht hp hq hs hk
   ·simp only[aj,ab] at hc
    obtain⟨p,hp,q,hq,rfl⟩:=hc
    exact T1 hE nm ho hf cZ hp hq hs hk
   ·simp at hc
  ·simp only[aj,ab] at hc
   obtain⟨p,hp,q,hq,rfl⟩:=hc
   exact T1 hE nm ho hf cZ hp hq hs hk
 ·rename_i op t x cZ
  simp only[ab] at hc
  obtain⟨p,hp,rfl⟩:=hc
  exact c5g hE nm ho hf cZ hp hs hk
 ·rename_i s t x cZ
  split at hc
  ·rename_i k' k hu gC
   simp only[ab] at hc
   obtain⟨p,hp,rfl⟩:=hc
   exact b52 hE nm ho hf cZ hu gC hp hs hk
  ·simp at hc
 ·rename_i t x cZ
  split at hc
  ·simp at hc
  ·rename_i d hd hu
   simp only[aj,ab] at hc
   obtain⟨i,hi,p,hp,rfl⟩:=hc
   exact c1j hE nm ho hf cZ hu (λm e=>hd m e) hi hp hs hk
  ·simp at hc
 ·rename_i x t' t cZ
  split at hc
  ·simp at hc
  ·rename_i d hd hu
   simp only[aj,ab] at hc
   obtain⟨i,hi,p,hp,rfl⟩:=hc
   exact c1k hE nm ho hf cZ hu (λm e=>hd m e) hi hp hs hk
  ·simp at hc
 ·rename_i x i cZ
  simp only[ab] at hc
  obtain⟨p,hp,rfl⟩:=hc
  exact b53 hE nm ho hf cZ hp hs hk
 ·rename_i b args ts cZ
  split at hc
  ·simp at hc
  ·rename_i dx
   have j8:yR vs o.dst≠.n:=by intro e; rw[e] at dx; simp[isN] at dx
   obtain⟨args⟩:=args
   obtain⟨ts⟩:=ts
   unfold SK at hc
   split at hc
   ·rename_i x t rest hb em ft
    simp only at em ft
    subst em ft
    split at hc
    ·rename_i hu
     simp only[ab] at hc
     obtain⟨p,hp,rfl⟩:=hc
     exact T3 hE nm ho hf cZ rfl (str:=true) (by simpa using hu) hp hs hk
    ·rename_i e hu
     simp only[ab] at hc
     obtain⟨p,hp,rfl⟩:=hc
     exact T3 hE nm ho hf cZ rfl (str:=false) (by simpa using⟨e,hu⟩) hp hs hk
    ·simp at hc
   ·simp only[ab] at hc
    obtain⟨p,hp,rfl⟩:=hc
    exact T6 (mx:=false) hE nm ho hf cZ hp hs hk
   ·simp only[ab] at hc
    obtain⟨p,hp,rfl⟩:=hc
    exact T6 (mx:=true) hE nm ho hf cZ hp hs hk
   ·rename_i x t rest hb em ft
    simp only at em ft
    subst em ft
    split at hc
    ·rename_i e hu
     simp only[ab] at hc
     obtain⟨p,hp,rfl⟩:=hc
     exact c3b hE nm ho hf cZ rfl hu hp hs hk
    ·simp at hc
   ·rename_i s x t1 t2 hb em ft
    simp only at em ft
    subst em ft
    split at hc
    ·rename_i e e' hu gC
     split at hc
     ·rename_i size z hn hz
      simp only[aj,ab] at hc
      obtain⟨p,hp,q,hq,rfl⟩:=hc
      exact b7R hE nm ho hf cZ j8 hu gC hn hz hp hq hs hk
     ·simp at hc
    ·simp at hc
   ·simp at hc
 ·rename_i f args ts cZ
  simp only[aj,ab] at hc
  obtain⟨k,dt,ps,ey,rfl⟩:=hc
  split at hs
  ·split at hs
   ·simp[EC,opv,rd,raw,cp] at hs
   ·rename_i dx
    exact b7V hF hE nm ho (by intro e; rw[e] at dx; simp[isN] at dx) hf dO et cZ dt ey hs hk
  ·split at hs
   ·exact b7U hF hE nm ho hf dO et cZ dt ey hs hk
   ·exact b9e hF hE nm ho hf dO et cZ dt ey hs hk
 ·rename_i t args ts cZ
  simp only[aj,ab] at hc
  obtain⟨p,hp,ps,ey,rfl⟩:=hc
  exact b9g hF hE nm ho hf dO et cZ hp ey hs hk
 ·simp at hc
end
section
variable {E:Env} {N:Nm} {w:World} {G:GS} {st:St} {a:Act} {vs:List Tmp} {P:Program} {ops:Array Oper}
variable {o:Oper} {j:Nat} {Q:Exit→Act→World→Prop} {st1:St}
abbrev Next1 (N:Nm) (w:World) (G:GS) (a:Act) (st1:St) (vs:List Tmp) (ops:List Oper) (K:Act→World→Prop):Prop:=
 ∀a' w' G',FI N w' G' st1 a' vs (yk vs ops)→Ext w G w' G'→a'.tmps.size=a.tmps.size→K a' w'
theorem Kb {L:Nat→Option PFunc} (hF:Al N P L) (hE:EnvOk E N) (hP:E.P=P) (nm:Names vs (yk vs ops.toList)) (ho:ops[j]? = some o) (hf:FI N w G st a vs (yk vs ops.toList)) {cf:yt} (dO:CallOK N P cf)
  (et:∀k args h r,cf k args h=some r→∃f,L k=some f) {po:PO} (hc:FH E vs ops.toList o=some po) (hs:zm cf j po st=some st1) {K:Act→World→Prop} (hk:Next1 N w G a st1 vs ops.toList K):wpOp P ops Q j K a w:=by
 have eQ:ops.toList[j]? = some o:=by simpa using ho
 simp only[FH,ab] at hc
 obtain⟨g,hg,rfl⟩:=hc
 generalize pM:(cOp E vs ops.toList o).getD EC=p at hs
 unfold wpOp
 simp only[ho]
 have run:∀{st1},(opv cf p st).map (λr=>put r.2 j (yR vs o.dst) r.1)=some st1→Next1 N w G a st1 vs ops.toList K→o.wp P a w K Q:=by
  intro st1 h hk
  simp only[ab] at h
  obtain⟨⟨u,st2⟩,h1,rfl⟩:=h
  cases gb:cOp E vs ops.toList o with
  | none =>
    rw[gb] at pM
    simp only[Option.getD_none] at pM
    subst pM
    simp[EC,opv,rd,raw,cp] at h1
  | some p' =>
    rw[gb] at pM
    simp only[bX] at pM
    subst pM
    exact c5j hF hE hP nm eQ hf dO et gb h1 hk
 unfold SM at hg
 split at hg
 ·rename_i uz
  simp at hg; subst hg
  simp only[zm] at hs
  rw[af (by simp[Region.wanted,uz])]
  exact .inl (run hs hk)
 ·rename_i jj want vN
  split at hg
  ·rename_i og vO
   split at hg
   ·rename_i t ht
    simp only[ab] at hg
    obtain⟨px,gn,rfl⟩:=hg
    simp only[zm] at hs
    split at hs
    ·rename_i b hb
     have fN:=(yT hE gn hf hb).1
     have fJ:a.eval (.tmp t) = .bool b:=by generalize a.eval (.tmp t)=z at fN; cases fN; rfl
     have hy:yielded ops a.tmps jj=some b:=by
      have h1:ops[jj]? = some og:=by simpa using vO
      have h2:a.tmps[t]? = some (.bool b):=by
       simp only[Act.eval,aV] at fJ
       cases h:a.tmps[t]? with
       | none=>rw[h] at fJ; simp[undef] at fJ
       | some z=>rw[h] at fJ; simpa using fJ
      simp[yielded,h1,ht,h2]
     have hw:Region.wanted o (yielded ops a.tmps)=(b==want):=by
      simp[Region.wanted,vN,hy]
     rw[hw]
     split at hs
     ·rename_i oN
      rw[af (by simpa using oN)]
      exact .inl (run hs hk)
     ·rename_i oN
      rw[ae (by simpa using oN)]
      simp at hs; subst hs
      exact hk _ _ G (hf.put nm (BH eQ) (.tuple #[] [] rfl (by intro i c p h _; simp at h))) (Ext.refl _ _) (BJ _ _ _)
    ·rename_i hb
     have fN:=(yT hE gn hf hb).1
     have fJ:a.eval (.tmp t) = .tuple #[]:=by
      generalize a.eval (.tmp t)=z at fN
      cases fN with
      | tuple cs _ cY _=>simp at cY; rw[cY]
     have hy:yielded ops a.tmps jj=none:=by
      have h1:ops[jj]? = some og:=by simpa using vO
      simp only[Act.eval,aV] at fJ
      cases h:a.tmps[t]? with
      | none=>simp[yielded,h1,ht,h]
      | some z=>rw[h] at fJ; simp at fJ; subst fJ; simp[yielded,h1,ht,h]
     have hw:Region.wanted o (yielded ops a.tmps)=false:=by
      simp[Region.wanted,vN,hy]
     rw[hw]
     simp at hs; subst hs
     exact hk _ _ G (hf.put nm (BH eQ) (.tuple #[] [] rfl (by intro i c p h _; simp at h))) (Ext.refl _ _) (BJ _ _ _)
    ·simp at hs
   ·simp at hg
  ·simp at hg
theorem Next1.trans {w':World} {G':GS} {a':Act} {K:Act→World→Prop} {vs':List Tmp} {ops':List Oper} (h:Next1 N w G a st1 vs' ops' K) (e:Ext w G w' G') (hs:a'.tmps.size=a.tmps.size):Next1 N w' G' a' st1 vs' ops' K:=
 λa2 w2 G2 h1 h2 h3=>h a2 w2 G2 h1 (e.trans h2) (h3.trans hs)
theorem E4:∀{os:List Oper} {pos:List PO} {ops:List Oper},Ez E vs ops os=some pos→os.length=pos.length∧∀(i:Nat) (o:Oper),os[i]? = some o→∃p,pos[i]? = some p∧FH E vs ops o=some p
 | [],pos,ops,h=>by simp[Ez] at h; subst h; simp
 | o :: os, pos, ops, h => by
   simp only[Ez,aj,ab] at h
   obtain⟨p,hp,ps,ey,rfl⟩:=h
   obtain⟨h1,h2⟩:=E4 ey
   refine⟨by simp[h1],?_⟩
   intro i o' eQ
   cases i with
   | zero=>simp at eQ; subst eQ; exact⟨p,rfl,hp⟩
   | succ i=>simpa using h2 i o' (by simpa using eQ)
noncomputable def Am (cf:yt) (pos:List PO):List Nat→St→Option St
 | [],st=>some st
 | i :: l, st =>
   match pos[i]? with
   | some p=>(zm cf i p st).bind (Am cf pos l)
   | none=>none
theorem J8 {cf:yt} {all:List PO}:∀{pos:List PO} {j:Nat} {st:St},all.drop j=pos→AO cf j pos st=Am cf all (List.range' j pos.length) st
 | [],j,st,_=>by simp[AO,Am]
 | p :: pos, j, st, h => by
   have h1:all[j]? = some p:=by
    have:=aL List.head? h; simpa[List.head?_drop] using this
   have h2:all.drop (j+1)=pos:=by have:=aL List.tail h; simpa[List.tail_drop] using this
   simp only[AO,aB,List.range'_succ,Am,h1]
   congr 1
   funext st'
   exact J8 h2
theorem NH {L:Nat→Option PFunc} (hF:Al N P L) (hE:EnvOk E N) (hP:E.P=P) (nm:Names vs (yk vs ops.toList)) {cf:yt} (dO:CallOK N P cf)
  (et:∀k args h r,cf k args h=some r→∃f,L k=some f) {pos:List PO} (hc:Ez E vs ops.toList ops.toList=some pos):
  ∀{l:List Nat} {st st':St} {w:World} {G:GS} {a:Act},Am cf pos l st=some st'→FI N w G st a vs (yk vs ops.toList)→Next1 N w G a st' vs ops.toList (Q .normal)→wpOps P ops Q l a w
 | [], st, st', w, G, a, h, hf, hk => by
   simp[Am] at h; subst h
   exact hk _ _ G hf (Ext.refl _ _) rfl
 | i :: l, st, st', w, G, a, h, hf, hk => by
   simp only[Am] at h
   split at h
   ·rename_i p hp
    simp only[aj] at h
    obtain⟨st1,h1,h2⟩:=h
    have dc:i<ops.toList.length:=by rw[(E4 hc).1]; exact(ah.1 hp).1
    obtain⟨p',fB,gb⟩:=(E4 hc).2 i ops.toList[i] (an dc)
    have:p'=p:=by rw[hp] at fB; simpa using fB.symm
    subst this
    rw[wpOps_cons]
    refine Kb hF hE hP nm (o:=ops.toList[i]) (by simp) hf dO et gb h1 ?_
    intro a' w' G' iP he hs
    exact NH hF hE hP nm dO et hc h2 iP (hk.trans he hs)
   ·simp at h
end
theorem NJ {t:Tmp} {vs:List Tmp} {i:Nat} (h:vs[i]? = some t):∀n,(zQ t vs n).isSome=true:=by
 induction vs generalizing i with
 | nil=>simp at h
 | cons x xs ih =>
   intro n
   simp only[zQ]
   split
   ·rfl
   ·rename_i dh
    cases i with
    | zero=>simp at h; exact absurd h dh
    | succ i=>exact ih (by simpa using h) (n+1)
theorem TZ {vs:List Tmp}:∀{ops:List Oper},E1 vs ops=true→∀(j j':Nat) (o o':Oper) (t:Tmp),ops[j]? = some o→ops[j']? = some o'→o.dst=some t→o'.dst=some t→(zQ t vs 0).isSome=false→j=j'
 | [],_,j,_,_,_,_,h,_,_,_,_=>by simp at h
 | x :: xs, h, j, j', o, o', t, h1, h2, h3, h4, h5 => by
   simp only[E1,ap] at h
   obtain⟨ha,hb⟩:=h
   have key:∀(m:Nat) (p:Oper),xs[m]? = some p→x.dst=some t→p.dst≠some t:=by
    intro m p hm hx
    rw[hx] at ha
    simp only[h5,Bool.false_or,aN,bne_iff_ne,ne_eq] at ha
    exact ha p (ax hm)
   cases j with
   | zero =>
     simp at h1; subst h1
     cases j' with
     | zero=>rfl
     | succ m=>exact absurd h4 (key m o' (by simpa using h2) h3)
   | succ m =>
     cases j' with
     | zero=>simp at h2; subst h2; exact absurd h3 (key m o (by simpa using h1) h4)
     | succ m'=>rw[TZ hb m m' o o' t (by simpa using h1) (by simpa using h2) h3 h4 h5]
theorem J7 {vs:List Tmp} {ops:List Oper} (hn:vs.Nodup) (ho:E1 vs ops=true):Names vs (yk vs ops):=by
 have sp:∀j t,yk vs ops j=some t→∃o,ops[j]? = some o∧o.dst=some t∧(zQ t vs 0).isSome=false:=by
  intro j t h
  unfold yk at h
  split at h
  ·rename_i o ho
   split at h
   ·rename_i t' mL
    split at h
    ·simp at h
    ·rename_i hi
     simp at h; subst h
     exact⟨o,ho,mL,by simpa using hi⟩
   ·simp at h
  ·simp at h
 refine⟨?_,?_,?_⟩
 ·intro i i' t h1 h2
  obtain⟨hi,e1⟩:=ah.1 h1
  obtain⟨jz,e2⟩:=ah.1 h2
  exact(List.getElem_inj hn).1 (e1.trans e2.symm)
 ·intro j t i h1 h2
  obtain⟨o,_,_,h3⟩:=sp j t h1
  have:=NJ h2 0
  rw[h3] at this; simp at this
 ·intro j j' t h1 h2
  obtain⟨o,a1,a2,a3⟩:=sp j t h1
  obtain⟨o',b1,b2,_⟩:=sp j' t h2
  exact TZ ho j j' o o' t a1 b1 a2 b2 a3
abbrev Kl (p:PO) (st st':St):Prop:=Sim p.op (Cs p) st st'
theorem IB (p:PO):∀x∈ze p.op,x∈Cs p:=λx hx=>by simp only[Cs,aw]; exact .inr hx
theorem Oh (o:POp):∀x∈Bf o,x∈ze o:=by
 intro x hx
 cases o with
 | h o=>cases o<;>simp[Bf,ze,zN] at hx ⊢; exact .inl hx
 | take y=>simpa[Bf,ze] using hx
 | append a b c d=>simp[Bf,ze] at hx ⊢; exact .inl hx
 | pcallx k xs own =>
   cases own with
   | none=>simp[Bf] at hx
   | some i=>simp only[Bf,Option.mem_toList] at hx; exact ax hx
 | _=>simp[Bf] at hx
theorem Te {cf:yt} {j:Nat} {p:PO} {st st1:St} (hm:zf p.op≠2) (h:zm cf j p st=some st1):
  ∃(d:Dm) (u:PV),st1=put (d.app st) j p.dst u∧Ca p.op d∧∀st',Kl p st st'→zm cf j p st'=some (put (d.app st') j p.dst u):=by
 have run:(opv cf p.op st).map (λr=>put r.2 j p.dst r.1)=some st1→∃(d:Dm) (u:PV),st1=put (d.app st) j p.dst u∧Ca p.op d∧∀st',Kl p st st'→(opv cf p.op st').map (λr=>put r.2 j p.dst r.1)=some (put (d.app st') j p.dst u):=by
  intro h
  simp only[ab] at h
  obtain⟨⟨u,st2⟩,h1,rfl⟩:=h
  obtain⟨d,e,hf,hs⟩:=d08 (rs:=Cs p) hm (IB p) h1
  exact ⟨d,u,by rw[e],hf,λst' dV=>by rw[hs st' dV]; rfl⟩
 unfold zm at h
 split at h
 ·rename_i hg
  obtain⟨d,u,h1,h2,h3⟩:=run h
  exact ⟨d,u,h1,h2,λst' hs=>by simp only[zm,hg]; exact h3 st' hs⟩
 ·rename_i x want hg
  have hx:x∈Cs p:=by simp[Cs,hg]
  split at h
  ·rename_i b hb
   split at h
   ·rename_i oN
    obtain⟨d,u,h1,h2,h3⟩:=run h
    refine⟨d,u,h1,h2,λst' hs =>?_⟩
    have dn:rd st' x=some (.bool b):=by rw[← hs.rd hx]; exact hb
    simp only[zm,hg,dn,af oN]
    exact h3 st' hs
   ·rename_i oN
    simp only[aa] at h; subst h
    refine⟨.none,.tuple [],rfl,trivial,λst' hs =>?_⟩
    have dn:rd st' x=some (.bool b):=by rw[← hs.rd hx]; exact hb
    simp only[zm,hg,dn,ae oN]
    rfl
  ·rename_i hb
   simp only[aa] at h; subst h
   refine⟨.none,.tuple [],rfl,trivial,λst' hs =>?_⟩
   have dn:rd st' x=some (.tuple []):=by rw[← hs.rd hx]; exact hb
   simp only[zm,hg,dn]
   rfl
  ·simp at h
theorem Oi {st:St} {j:Nat} {d:PD} {u:PV} {x:PX} (h:isX d j x=false):raw (put st j d u) x=raw st x:=by
 cases d<;>cases x<;>simp[isX,AW] at h<;>simp only[put,raw]<;>first|rfl|(rw[aO]; simp[h])
theorem Tf (v:PV):vw (dem v)=vw v:=by cases v<;>rfl
theorem c00 (off:Nat) (v:PV):vw (D8 off v)=vw v:=by cases v<;>rfl
theorem c2J {y x:PX} (st:St) (h:AW y x=false):raw (AX y st) x=raw st x:=by
 cases y with
 | v i =>
   cases x with
   | v k=>simp[AW] at h; simp[AX,raw,bk,h]
   | _=>rfl
 | _=>cases x<;>rfl
theorem Oj:∀{xs:List PX} {x:PX} (st:St),(∀y∈xs,AW y x=false)→raw (Aw xs st) x=raw st x
 | [],_,_,_=>rfl
 | y :: xs, x, st, h => by
   simp only[Aw]
   rw[Oj (xs:=xs) _ (λz hz=>h z (bo _ hz)),c2J st (h y (bZ ..))]
theorem Tg:∀(xs:List PX) (st:St),(Aw xs st).heap=st.heap
 | [],_=>rfl
 | x::xs,st=>by simp only[Aw]; rw[Tg xs]; cases x<;>rfl
theorem Ok:∀(xs:List PX) (st:St) (h:List PObj),Aw xs { st with heap:=h }={ Aw xs st with heap:=h }
 | [],_,_=>rfl
 | x :: xs, st, h => by
   simp only[Aw]
   rw[← Ok xs]
   cases x<;>rfl
theorem c01 (d:Dm) (st:St) (x:PX) (ep:∀xs,d = .shut xs→∀y∈xs,AW y x=false):(raw (d.app st) x).map vw=(raw st x).map vw:=by
 cases d with
 | none=>rfl
 | heap h=>cases x<;>rfl
 | shut xs=>simp only[Dm.app]; rw[Oj st (ep xs rfl)]
 | src y =>
   cases y with
   | c p=>rfl
   | v i =>
     cases x with
     | v k =>
       simp only[Dm.app,raw,bk]
       cases st.vars[k]?<;>simp
       split<;>simp[Tf]
     | _=>rfl
   | l i =>
     cases x with
     | l k =>
       simp only[Dm.app,raw,bk]
       cases st.locs[k]?<;>simp
       split<;>simp[Tf]
     | _=>rfl
 | cell s off =>
   cases x with
   | v k =>
     simp only[Dm.app,raw,bk]
     cases st.vars[k]?<;>simp
     split<;>simp[c00]
   | _=>rfl
theorem b8Z {o:POp} {d:Dm} (hd:Ca o d) (st:St) (x:PX) (hx:∀y∈Bf o,AW y x=false) (ep:∀xs,d = .shut xs→∀y∈xs,AW y x=false) (es:List PV):raw (d.app st) x=some (.list true es)↔raw st x=some (.list true es):=by
 cases d with
 | none=>exact Iff.rfl
 | heap h=>cases x<;>exact Iff.rfl
 | shut xs=>simp only[Dm.app]; rw[Oj st (ep xs rfl)]
 | src y =>
   have hy:=hx y hd
   cases y with
   | c p=>exact Iff.rfl
   | v i =>
     cases x with
     | v k=>simp[AW] at hy; simp[Dm.app,raw,bk,hy]
     | _=>exact Iff.rfl
   | l i =>
     cases x with
     | l k=>simp[AW] at hy; simp[Dm.app,raw,bk,hy]
     | _=>exact Iff.rfl
 | cell s off =>
   cases x with
   | v k =>
     simp only[Dm.app,raw,bk]
     cases hv:st.vars[k]? with
     | none=>simp
     | some v =>
       simp only[aC,aa]
       split
       ·cases v<;>simp[D8]
       ·simp
   | _=>exact Iff.rfl
theorem c7A (v:PV):dem (dem v)=dem v:=by cases v<;>rfl
theorem Ol (cs:List PV) (off:Nat):(cs.modify off dem).map dem=cs.map dem:=by
 apply bO
 intro k
 simp only[aF,bk]
 cases cs[k]?<;>simp
 split<;>simp[c7A]
theorem c7B {o:POp} {d:Dm} (hd:Ca o d) (st:St) (exact:Bool) (he:exact=true→zf o≠3) (h4:zf o≠4):DE exact st (d.app st)∧DE exact (d.app st) st:=by
 have same:∀(st st':St),(∀s:Nat,∀g cs,st.vars[s]? = some (.loc g cs)→st'.vars[s]? = some (.loc g cs))→DE exact st st':=λst st' h s g cs hs=>⟨cs,h s g cs hs,rfl,λ_=>rfl⟩
 cases d with
 | none=>exact ⟨same _ _ (λ_ _ _ h=>h),same _ _ (λ_ _ _ h=>h)⟩
 | heap h=>exact ⟨same _ _ (λ_ _ _ h=>h),same _ _ (λ_ _ _ h=>h)⟩
 | shut xs=>exact absurd hd.1 h4
 | src y =>
   cases y with
   | c p=>exact ⟨same _ _ (λ_ _ _ h=>h),same _ _ (λ_ _ _ h=>h)⟩
   | l i=>exact ⟨same _ _ (λ_ _ _ h=>h),same _ _ (λ_ _ _ h=>h)⟩
   | v i =>
     refine⟨same _ _ ?_,same _ _ ?_⟩
     ·intro s g cs h
      simp only[Dm.app,bk,h,aC]
      split<;>rfl
     ·intro s g cs h
      simp only[Dm.app,bk] at h
      cases hv:st.vars[s]? with
      | none=>simp[hv] at h
      | some v =>
        rw[hv] at h
        simp only[cS,aC,aa] at h
        split at h
        ·have:v = .loc g cs:=by cases v<;>simp_all [dem]
         rw[this]
        ·rw[h]
 | cell s off =>
   have h3:zf o=3:=hd
   have dh:exact=false:=by
    cases exact with
    | false=>rfl
    | true=>exact absurd h3 (he rfl)
   subst dh
   refine⟨?_,?_⟩
   ·intro k g cs h
    simp only[Dm.app,bk,h,aC]
    split
    ·exact ⟨cs.modify off dem,rfl,Ol cs off,by simp⟩
    ·exact ⟨cs,rfl,rfl,by simp⟩
   ·intro k g cs h
    simp only[Dm.app,bk] at h
    cases hv:st.vars[k]? with
    | none=>simp[hv] at h
    | some v =>
      rw[hv] at h
      simp only[cS,aC,aa] at h
      split at h
      ·have:∃cs0,v = .loc g cs0∧cs0.modify off dem=cs:=by cases v<;>simp_all [D8]
       obtain⟨cs0,rfl,rfl⟩:=this
       exact ⟨_,rfl,(Ol _ off).symm,by simp⟩
      ·exact ⟨cs,by rw[h],rfl,by simp⟩
structure Comm (jp:Nat) (p:PO) (jq:Nat) (q:PO):Prop where
 mp:zf p.op≠2
 mq:zf q.op≠2
 mm:¬(zf p.op=3∧zf q.op=3)
 pq:∀x∈Cs q,isX p.dst jp x=false
 pv:isV p.dst=true→zf q.op=0
 qp:∀x∈Cs p,isX q.dst jq x=false
 qv:isV q.dst=true→zf p.op=0
 dd:FN p.dst q.dst=false
 tt:∀x∈Bf p.op,∀y∈Bf q.op,AW x y=false
 m4:zf p.op=4→zf q.op=0
 n4:zf q.op=4→zf p.op=0
 h2:Av p.op=2→Av q.op=0
 k2:Av q.op=2→Av p.op=0
 sp:∀x∈Fa p.op,∀y∈Cs q,AW x y=false
 sq:∀x∈Fa q.op,∀y∈Cs p,AW x y=false
theorem c02 (x y:PX):AW x y=AW y x:=by cases x<;>cases y<;>simp[AW]<;>exact Bool.beq_comm
theorem Th (x y:PD):FN x y=FN y x:=by cases x<;>cases y<;>simp[FN]<;>exact Bool.beq_comm
theorem c2K {jp jq:Nat} {p q:PO} (h:Ki jp p jq q=true):Comm jp p jq q:=by
 simp only[Ki,Gn,ap,bG,bne_iff_ne,ne_eq,aN,bL,br,Bool.and_eq_false_iff,beq_eq_false_iff_ne,bne_eq_false_iff_eq,List.any_eq_false] at h
 obtain⟨⟨⟨⟨⟨⟨⟨⟨⟨⟨⟨⟨h1,h2⟩,h3⟩,a1⟩,a2⟩,a3⟩,a4⟩,a5⟩,a6⟩,h4,h5⟩,h6,h7⟩,h8⟩,h9⟩:=h
 have neg:∀{a b:Nat} {c:Nat},(¬a=c∨b=0)→a=c→b=0:=by
  intro a b c h e
  rcases h with h|h
  ·exact absurd e h
  ·exact h
 refine⟨h1,h2,?_,h4,?_,h6,?_,h8,?_,neg a1,neg a2,neg a3,neg a4,?_,?_⟩
 ·rintro⟨a,b⟩; rcases h3 with h3|h3
  ·exact h3 a
  ·exact h3 b
 ·intro hv; rcases h5 with h5|h5
  ·rw[hv] at h5; simp at h5
  ·exact h5
 ·intro hv; rcases h7 with h7|h7
  ·rw[hv] at h7; simp at h7
  ·exact h7
 ·intro x hx y hy
  simpa using h9 x hx y hy
 ·intro x hx y hy
  simpa using a5 x hx y hy
 ·intro x hx y hy
  simpa using a6 x hx y hy
theorem Comm.symm {jp jq:Nat} {p q:PO} (h:Comm jp p jq q):Comm jq q jp p:=
 ⟨h.mq,h.mp,fun⟨a,b⟩=>h.mm ⟨b,a⟩,h.qp,h.qv,h.pq,h.pv,by rw[Th]; exact h.dd,λx hx y hy=>by rw[c02]; exact h.tt y hy x hx,h.n4,h.m4,h.k2,h.h2,h.sq,h.sp⟩
theorem Ti {jp jq:Nat} {p q:PO} (hc:Comm jp p jq q) {d:Dm} (hd:Ca p.op d) (st:St) (u:PV):Kl q st (put (d.app st) jp p.dst u)∧Kl q (put (d.app st) jp p.dst u) st:=by
 have ep:∀x∈Cs q,∀xs,d = .shut xs→∀y∈xs,AW y x=false:=by
  intro x hx xs e y hy
  subst e
  exact hc.sp y (hd.2▸hy) x hx
 have lN:∀x∈Cs q,(raw st x).map vw=(raw (put (d.app st) jp p.dst u) x).map vw:=λx hx=>by
  rw[Oi (hc.pq x hx),c01 d st x (ep x hx)]
 have lO:∀x∈Bf q.op,∀es,raw st x=some (.list true es)↔raw (put (d.app st) jp p.dst u) x=some (.list true es):=λx hx es=>by
  rw[Oi (hc.pq x (IB q x (Oh _ x hx))),b8Z hd st x (λy hy=>hc.tt y hy x hx) (ep x (IB q x (Oh _ x hx)))]
 have dX:1≤zf q.op→DE (zf q.op==3) st (put (d.app st) jp p.dst u)∧DE (zf q.op==3) (put (d.app st) jp p.dst u) st:=λh1=>by
  have hv:(put (d.app st) jp p.dst u).vars=(d.app st).vars:=by
   cases hd:p.dst with
   | v i=>have:=hc.pv (by rw[hd]; rfl); omega
   | l=>rfl
   | n=>rfl
  have:=c7B hd st (zf q.op==3) (λhe h3=>hc.mm ⟨h3,by simpa using he⟩) (λh4=>by have:=hc.m4 h4; omega)
  unfold DE at this ⊢
  rw[hv]
  exact this
 have eo:1≤Av q.op→(put (d.app st) jp p.dst u).heap=st.heap:=by
  intro h1
  have hp:(put (d.app st) jp p.dst u).heap=(d.app st).heap:=by cases p.dst<;>rfl
  rw[hp]
  cases d with
  | none=>rfl
  | src y=>cases y<;>rfl
  | cell s off=>rfl
  | heap h=>have:=hc.h2 hd; omega
  | shut xs=>exact Tg xs st
 exact ⟨⟨lN,lO,λh=>(dX h).1,eo⟩,⟨λx hx=>(lN x hx).symm,λx hx es=>(lO x hx es).symm,λh=>(dX h).2,λh=>(eo h).symm⟩⟩
theorem IC (l:List PV) (i k:Nat) (f g:PV→PV) (h:i=k→∀v,f (g v)=g (f v)):(l.modify i f).modify k g=(l.modify k g).modify i f:=by
 apply bO
 intro m
 simp only[bk,cS,aR]
 cases l[m]? with
 | none=>rfl
 | some v =>
   simp only[aC,Function.comp]
   by_cases h1:i=m<;>by_cases h2:k=m<;>simp[h1,h2]
   exact (h (by omega) v).symm
theorem Tj (off:Nat) (v:PV):dem (D8 off v)=D8 off (dem v):=by cases v<;>rfl
theorem c2L (v:PV):D9 (dem v)=dem (D9 v):=by cases v<;>rfl
theorem b5S (off:Nat) (v:PV):D9 (D8 off v)=D8 off (D9 v):=by
 cases v<;>simp[D8,D9,Ol]
theorem c2M (x y:PX) (st:St):AX x ((Dm.src y).app st)=(Dm.src y).app (AX x st):=by
 cases x<;>cases y<;>(try simp only[Dm.app,AX])<;>(try rfl)
 rw[IC]; intro _ v; exact (c2L v).symm
theorem c03 (x:PX) (s off:Nat) (st:St):AX x ((Dm.cell s off).app st)=(Dm.cell s off).app (AX x st):=by
 cases x<;>(try simp only[Dm.app,AX])<;>(try rfl)
 rw[IC]; intro _ v; exact (b5S off v).symm
theorem Om:∀(xs:List PX) (y:PX) (st:St),Aw xs ((Dm.src y).app st)=(Dm.src y).app (Aw xs st)
 | [],_,_=>rfl
 | x::xs,y,st=>by simp only[Aw]; rw[c2M,Om xs]
theorem Oo:∀(xs:List PX) (s off:Nat) (st:St),Aw xs ((Dm.cell s off).app st)=(Dm.cell s off).app (Aw xs st)
 | [],_,_,_=>rfl
 | x::xs,s,off,st=>by simp only[Aw]; rw[c03,Oo xs]
theorem c7C {o o':POp} {d d':Dm} (hd:Ca o d) (gH:Ca o' d') (hm:¬(zf o=3∧zf o'=3)) (h4:zf o=4→zf o'=0) (h2:Av o=2→Av o'=0) (st:St):d.app (d'.app st)=d'.app (d.app st):=by
 cases d with
 | none=>rfl
 | heap h =>
   cases d' with
   | none=>rfl
   | src y=>cases y<;>rfl
   | cell s off=>rfl
   | heap h' =>
     have a:=h2 hd
     have b:Av o'=2:=gH
     omega
   | shut xs=>exact (Ok xs st h).symm
 | shut xs =>
   cases d' with
   | none=>rfl
   | src y=>exact Om xs y st
   | cell s off=>exact Oo xs s off st
   | heap h'=>exact Ok xs st h'
   | shut ys =>
     have a:=h4 hd.1
     have b:zf o'=4:=gH.1
     omega
 | src y =>
   cases d' with
   | heap h'=>cases y<;>rfl
   | shut xs=>exact (Om xs y st).symm
   | none=>rfl
   | src y' =>
     cases y<;>cases y'<;>(try simp only[Dm.app])<;>(try rfl)<;>(rw[IC]; intro _ v; rfl)
   | cell s off =>
     cases y<;>(try simp only[Dm.app])<;>(try rfl)
     rw[IC]; intro _ v; exact (Tj off v).symm
 | cell s off =>
   cases d' with
   | heap h'=>rfl
   | shut xs=>exact (Oo xs s off st).symm
   | none=>rfl
   | src y' =>
     cases y'<;>(try simp only[Dm.app])<;>(try rfl)
     rw[IC]; intro _ v; exact Tj off v
   | cell s' off'=>exact absurd ⟨hd,gH⟩ hm
theorem Oq (l:List PV) (i k:Nat) (f:PV→PV) (u:PV) (h:i≠k):(l.set i u).modify k f=(l.modify k f).set i u:=by
 apply bO
 intro m
 simp only[bk,aO,List.length_modify]
 by_cases h1:i=m
 ·subst h1
  have:¬k=i:=λe=>h e.symm
  simp[this]
 ·simp[h1]
theorem c2N {x:PX} {j:Nat} {d:PD} (st:St) (u:PV) (h:isX d j x=false):AX x (put st j d u)=put (AX x st) j d u:=by
 cases x with
 | v k =>
   cases d with
   | v i=>simp[isX,AW] at h; simp only[AX,put]; rw[Oq _ _ _ _ _ h]
   | _=>rfl
 | _=>cases d<;>rfl
theorem Tk:∀{xs:List PX} {j:Nat} {d:PD} (st:St) (u:PV),(∀x∈xs,isX d j x=false)→Aw xs (put st j d u)=put (Aw xs st) j d u
 | [],_,_,_,_,_=>rfl
 | x :: xs, j, d, st, u, h => by
   simp only[Aw]
   rw[c2N st u (h x (bZ ..)),Tk _ _ (λy hy=>h y (bo _ hy))]
theorem c2O (o:POp):∀x∈Fa o,x∈ze o:=by
 intro x hx
 cases o with
 | h o=>cases o<;>simp[Fa,ze,zN] at hx ⊢; exact hx
 | _=>simp[Fa] at hx
theorem Tl {p:PO} {q:PO} {jp jq:Nat} (hc:Comm jp p jq q) {d:Dm} (hd:Ca p.op d) (st:St) (u:PV):d.app (put st jq q.dst u)=put (d.app st) jq q.dst u:=by
 cases d with
 | none=>rfl
 | heap h=>cases q.dst<;>rfl
 | shut xs=>exact Tk st u (λx hx=>hc.qp x (IB p x (c2O _ x (hd.2▸hx))))
 | src y =>
   have hy:=hc.qp y (IB p y (Oh _ y hd))
   cases hq:q.dst with
   | n=>rfl
   | v i =>
     rw[hq] at hy
     cases y with
     | c z=>rfl
     | l k=>rfl
     | v k=>simp[isX,AW] at hy; simp only[Dm.app,put]; rw[Oq _ _ _ _ _ hy]
   | l =>
     rw[hq] at hy
     cases y with
     | c z=>rfl
     | v k=>rfl
     | l k=>simp[isX,AW] at hy; simp only[Dm.app,put]; rw[Oq _ _ _ _ _ hy]
 | cell s off =>
   cases hq:q.dst with
   | n=>rfl
   | l=>rfl
   | v i =>
     have h0:=hc.qv (by rw[hq]; rfl)
     have h3:zf p.op=3:=hd
     omega
theorem c7D {jp jq:Nat} {d d':PD} (hj:jp≠jq) (h:FN d d'=false) (st:St) (u u':PV):put (put st jp d u) jq d' u'=put (put st jq d' u') jp d u:=by
 cases d<;>cases d'<;>simp[FN] at h<;>simp only[put]<;>(try rfl)
 ·rw[List.set_comm _ _ h]
 ·rw[List.set_comm _ _ hj]
theorem swap {cf:yt} {jp jq:Nat} {p q:PO} (hj:jp≠jq) (hc:Comm jp p jq q) {st st1 st2:St} (h1:zm cf jp p st=some st1) (h2:zm cf jq q st1=some st2):
  ∃st1',zm cf jq q st=some st1'∧zm cf jp p st1'=some st2:=by
 obtain⟨d,u,e1,f1,s1⟩:=Te hc.mp h1
 obtain⟨d',u',e2,f2,s2⟩:=Te hc.mq h2
 subst e1
 have hq:=s2 st (Ti hc f1 st u).2
 refine⟨_,hq,?_⟩
 have hp:=s1 _ (Ti hc.symm f2 st u').1
 rw[hp,e2]
 congr 1
 rw[Tl hc f1,Tl hc.symm f2,c7C f1 f2 hc.mm hc.m4 hc.h2]
 exact c7D (λe=>hj e.symm) (by rw[Th]; exact hc.dd) _ _ _
def Km (p:PO):Option (Nat×Bool×PX):=
 match p with
 | ⟨.l,.h (.load sz agg x false),none⟩=>some (sz,agg,x)
 | _=>none
def Kn (p:PO):Option PX:=
 match p with
 | ⟨.l,.h (.loadn y),none⟩=>some y
 | _=>none
def Kf (jp:Nat) (p:PO) (jq:Nat) (q:PO):Bool:=
 match Km p,Kn q with
 | some (_,_,x),some y => !isX .l jp y && !isX .l jq x
 | _, _ => match Kn p, Km q with
   | some y,some (_,_,x) => !isX .l jp x && !isX .l jq y
   | _,_=>false
def GE (jp:Nat) (p:PO) (jq:Nat) (q:PO):Bool:=Ki jp p jq q||Kf jp p jq q
theorem Kg {p:PO} {r} (h:Km p=some r):p=⟨.l,.h (.load r.1 r.2.1 r.2.2 false),none⟩:=by
 unfold Km at h
 split at h
 ·cases h; rfl
 ·cases h
theorem Kh {p:PO} {y} (h:Kn p=some y):p=⟨.l,.h (.loadn y),none⟩:=by
 unfold Kn at h
 split at h
 ·cases h; rfl
 ·cases h
def ldv (sz:Nat) (agg:Bool) (st:St):Option PV→Option PV
 | some (.cptr cs)=>yu sz agg cs 0
 | some (.ptr n off)=>(yN st n).bind λcs=>yu sz agg cs off
 | _=>none
theorem Tm {cf:yt} (sz:Nat) (agg:Bool) (x:PX) (st:St):opv cf (.h (.load sz agg x false)) st=(ldv sz agg st (addr st x)).map (·,st):=by
 simp only[opv,yo,bP]
 cases addr st x with
 | none=>rfl
 | some v =>
   cases v<;>try rfl
   simp only[ldv]
   cases yN st _<;>rfl
def lnv (st:St):Option PV→Option (PV×List PObj)
 | some (.ptr n off) => (yN st n).bind fun cs => match cs[off]? with
   | some (.list true es)=>some (.list true es,st.heap.set n (.cells (cs.set off (.list false es))))
   | some .nils=>some (.list true [],st.heap)
   | _=>none
 | _=>none
theorem Tn {cf:yt} (y:PX) (st:St):opv cf (.h (.loadn y)) st=(lnv st (addr st y)).map λr=>(r.1,{ st with heap:=r.2 }):=by
 simp only[opv,yo]
 cases addr st y with
 | none=>rfl
 | some v =>
   cases v<;>try rfl
   rename_i n off
   simp only[lnv]
   cases yN st n with
   | none=>rfl
   | some cs =>
     simp only[ar]
     cases cs[off]? with
     | none=>rfl
     | some z =>
       cases z<;>try rfl
       rename_i b es
       cases b<;>rfl
theorem To {sz:Nat} {agg:Bool} {st:St} {a b:Option PV} {r} (h:lnv st b=some r):ldv sz agg { st with heap:=r.2 } a=ldv sz agg st a:=by
 cases b with
 | none=>simp[lnv] at h
 | some v =>
   cases v<;>simp only[lnv] at h<;>try (cases h; done)
   rename_i n off
   cases hg:yN st n with
   | none=>rw[hg] at h; cases h
   | some cs =>
     rw[hg] at h
     simp only[ar] at h
     split at h
     ·rename_i es gf
      cases h
      cases a with
      | none=>rfl
      | some v =>
        cases v<;>try rfl
        rename_i m off'
        simp only[ldv]
        have hcell:st.heap[n]? = some (.cells cs):=by
         unfold yN at hg
         split at hg
         ·cases hg; assumption
         ·cases hg
        have hn:n<st.heap.length:=(ah.1 hcell).1
        by_cases hm:n=m
        ·subst hm
         have e1:yN { st with heap:=st.heap.set n (.cells (cs.set off (.list false es))) } n=some (cs.set off (.list false es)):=by simp[yN,hn]
         rw[e1,hg]
         simp only[ar]
         refine Td ?_
         rw[List.map_set]
         symm
         have ho:off<cs.length:=(ah.1 gf).1
         have h2:cs[off] = .list true es:=(ah.1 gf).2
         apply bO
         intro i
         rw[aO]
         split
         ·rename_i e; subst e
          simp[ho,h2,dem]
         ·rfl
        ·have e1:yN { st with heap:=st.heap.set n (.cells (cs.set off (.list false es))) } m=yN st m:=by simp[yN,hm]
         rw[e1]
     ·cases h; rfl
     ·cases h
theorem Ko {st:St} {j:Nat} {v:PV} {x:PX} {h:List PObj} (hx:isX .l j x=false):addr { st with locs:=st.locs.set j v,heap:=h } x=addr st x:=by
 have:=Oi (st:=st) (j:=j) (d := .l) (u:=v) hx
 rw[Kk,Kk,← this]
 cases x<;>rfl
theorem d4z {cf:yt} {jp jq:Nat} {p q:PO} (hj:jp≠jq) (hc:Kf jp p jq q=true) {st st1 st2:St} (h1:zm cf jp p st=some st1) (h2:zm cf jq q st1=some st2):
  ∃st1',zm cf jq q st=some st1'∧zm cf jp p st1'=some st2:=by
 unfold Kf at hc
 split at hc
 ·rename_i sz agg x y hp hq
  simp only[ap,bG] at hc
  rw[Kg hp] at h1 ⊢
  rw[Kh hq] at h2 ⊢
  simp only[zm,Tm,Tn,aR,ab] at h1 h2 ⊢
  obtain⟨v,hv,rfl⟩:=h1
  obtain⟨r,hr,rfl⟩:=h2
  simp only[Function.comp,put] at hr ⊢
  rw[Ko (h:=st.heap) hc.1] at hr
  refine⟨_,⟨r,hr,rfl⟩,v,?_,?_⟩
  ·rw[Ko hc.2]
   exact (To hr).trans hv
  ·simp only[List.set_comm _ _ hj]
 ·split at hc
  ·rename_i y sz agg x hp hq
   simp only[ap,bG] at hc
   rw[Kh hp] at h1 ⊢
   rw[Kg hq] at h2 ⊢
   simp only[zm,Tm,Tn,aR,ab] at h1 h2 ⊢
   obtain⟨r,hr,rfl⟩:=h1
   obtain⟨v,hv,rfl⟩:=h2
   simp only[Function.comp,put] at hv ⊢
   rw[Ko hc.1] at hv
   refine⟨_,⟨v,(To hr).symm.trans hv,rfl⟩,r,?_,?_⟩
   ·rw[Ko (h:=st.heap) hc.2]
    exact hr
   ·simp only[List.set_comm _ _ hj]
  ·cases hc
theorem d4A {cf:yt} {jp jq:Nat} {p q:PO} (hj:jp≠jq) (hc:GE jp p jq q=true) {st st1 st2:St} (h1:zm cf jp p st=some st1) (h2:zm cf jq q st1=some st2):
  ∃st1',zm cf jq q st=some st1'∧zm cf jp p st1'=some st2:=by
 rcases Bool.or_eq_true_iff.1 hc with h|h
 ·exact swap hj (c2K h) h1 h2
 ·exact d4z hj h h1 h2
theorem N8 {cf:yt} {pos:List PO} {i:Nat} {q:PO} (hi:pos[i]? = some q) {post:List Nat}:∀{pre:List Nat} {st st':St},(∀j∈pre,j≠i∧∀p,pos[j]? = some p→GE j p i q=true) →
  Am cf pos (pre++i::post) st=some st'→Am cf pos (i::(pre++post)) st=some st'
 | [],st,st',_,h=>h
 | j :: pre, st, st', hc, h => by
   simp only[aK,Am] at h
   split at h
   ·rename_i p hp
    simp only[aj] at h
    obtain⟨st1,h1,h2⟩:=h
    have ih:=N8 hi (λj' kM=>hc j' (by simp[kM])) h2
    simp only[Am,hi,aj] at ih
    obtain⟨st2,h3,h4⟩:=ih
    obtain⟨hj,gQ⟩:=hc j (by simp)
    obtain⟨st1',h5,h6⟩:=d4A hj (gQ p hp) h1 h3
    simp only[aK,Am,hi,hp,h5,ar,h6]
    exact h4
   ·simp at h
inductive Pre (ops:Array Oper):Nat→Nat→Prop where
 | edge {i:Nat} {o:Oper} {e:Edge} (ho:ops[i]? = some o) (he:e∈o.after) (hb:Region.binds .any e=true):Pre ops e.on i
 | far {i j:Nat} {o:Oper} {e:Edge} (ho:ops[i]? = some o) (he:e∈o.after) (hb:Region.binds .any e=true) (h:Pre ops j e.on):Pre ops j i
def Kq {α:Type} (m:Nat) (f:Nat→α):α:=
 match m with
 | 0=>f 0
 | n+1=>f (n+1)
theorem Kj {α:Type} (m:Nat) (f:Nat→α):Kq m f=f m:=by cases m<;>rfl
def wide:Nat:=1024
def ID (M:Nat):List Edge→Nat→Nat
 | [],m=>m
 | e::es,m=>if Region.binds .any e then Kq (m ||| 1 <<< e.on ||| M >>> (e.on*1024) % 2 ^ wide) (ID M es) else ID M es m
def rows:List Oper→Nat→Nat→Nat
 | [],_,M=>M
 | o::os,i,M=>Kq (M ||| (ID M o.after.toList 0 % 2 ^ wide) <<< (i*1024)) (rows os (i+1))
def Iz (ops:Array Oper) (M:Nat):Prop:=∀i j,j<1024→M.testBit (i*1024+j)=true→Pre ops j i
theorem Ot {ops:Array Oper} {M:Nat} (hM:Iz ops M) {i:Nat} {o:Oper} (ho:ops[i]? = some o):∀(es:List Edge) (m:Nat),(∀e∈es,e∈o.after)→(∀j,j<1024→m.testBit j=true→Pre ops j i)→∀j,j<1024→(ID M es m).testBit j=true→Pre ops j i
 | [],m,_,hm=>hm
 | e :: es, m, gf, hm => by
   intro j hj h
   simp only[ID] at h
   split at h
   ·rename_i hb
    rw[Kj] at h
    refine Ot hM ho es _ (λx hx=>gf x (by simp[hx])) ?_ j hj h
    intro k hk eA
    simp only[Nat.testBit_or,bL] at eA
    rcases eA with(eA|eA)|eA
    ·exact hm k hk eA
    ·rw[Nat.one_shiftLeft,Nat.testBit_two_pow] at eA
     have:e.on=k:=by simpa using eA
     exact this▸Pre.edge ho (gf e (by simp)) hb
    ·rw[Nat.testBit_mod_two_pow,Nat.testBit_shiftRight] at eA
     simp only[ap] at eA
     exact Pre.far ho (gf e (by simp)) hb (hM e.on k hk eA.2)
   ·exact Ot hM ho es m (λx hx=>gf x (by simp[hx])) hm j hj h
theorem N9 {ops:Array Oper}:∀(os:List Oper) (i M:Nat),(∀k,os[k]? = ops[i+k]?)→Iz ops M→Iz ops (rows os i M)
 | [],_,_,_,hM=>hM
 | o :: os, i, M, hs, hM => by
   simp only[rows,Kj]
   have ho:ops[i]? = some o:=by simpa using(hs 0).symm
   refine N9 os (i+1) _ (λk=>by have:=hs (k+1); simp only[cE] at this; rw[this]; congr 1; omega) ?_
   intro a j hj h
   simp only[Nat.testBit_or,bL] at h
   rcases h with h|h
   ·exact hM a j hj h
   ·rw[Nat.testBit_shiftLeft,Nat.testBit_mod_two_pow] at h
    simp only[ap,ay] at h
    obtain⟨h1,h2,h3⟩:=h
    have hw:wide=1024:=rfl
    have ha:a=i:=by omega
    subst ha
    rw[Nat.add_sub_cancel_left] at h3
    exact Ot hM ho o.after.toList 0 (by simp) (by simp) j hj h3
def IA (M:Nat) (pos:List PO) (i j:Nat):Bool:=
 (match pos[j]?,pos[i]? with
 | some p,some q=>GE j p i q
 | _,_=>false)||(decide (j<1024)&&M.testBit (i*1024+j))
def Oa (ops:Array Oper) (pos:List PO) (M:Nat):Bool:=
 (List.range ops.size).all λi=>(match ops[i]? with | some o=>o.after.all (λe => !Region.binds .any e||decide (e.on<i)) | none=>true)&&(List.range i).all (IA M pos i)
def E2 (ops:Array Oper) (pos:List PO):Bool:=Kq (rows ops.toList 0 0) (Oa ops pos)
def J6 (ops:Array Oper) (listed:Array Bool):Prop:=
 ∀(k:Nat) (o:Oper),ops[k]? = some o→listed.getD k false=true→∀e∈o.after,Region.binds .any e=true→listed.getD e.on false=true
theorem Tb {ops:Array Oper} {listed:Array Bool} (dH:J6 ops listed) {j i:Nat} (h:Pre ops j i):∀{o:Oper},ops[i]? = some o→(∀e∈o.after,Region.binds .any e=true→listed.getD e.on false=true)→listed.getD j false=true:=by
 induction h with
 | edge ho he hb=>intro o eQ hl; rw[ho] at eQ; cases eQ; exact hl _ he hb
 | @far i j o1 e ho he hb hp ih =>
   intro o eQ hl; rw[ho] at eQ; cases eQ
   have mc:=hl _ he hb
   cases h':ops[e.on]? with
   | none => exfalso; cases hp with
     | edge h1=>rw[h'] at h1; cases h1
     | far h1=>rw[h'] at h1; cases h1
   | some o'=>exact ih h' (dH e.on o' h' mc)
def zR (n:Nat) (listed:Array Bool):List Nat:=(List.range n).filter λi => !listed.getD i false
theorem Ta {l:List Nat} {f:Nat→Bool} {i:Nat} (hs:l.Pairwise (·<·)) (hi:i∈l) (hf:f i=true):
  ∃pre post,l.filter f=pre++i::post∧(∀j∈pre,j<i∧j∈l∧f j=true)∧l.filter (λk=>f k&&k != i)=pre++post:=by
 induction l with
 | nil=>simp at hi
 | cons x xs ih =>
   rw[bR] at hs
   rcases az.1 hi with rfl|hi
   ·refine⟨[],xs.filter f,by simp[hf],by simp,?_⟩
    simp only[cK,hf,bne_self_eq_false,Bool.and_false,aJ,if_false,be]
    apply List.filter_congr
    intro k hk
    have:k≠i:=λe=>by have:=hs.1 k hk; omega
    simp[this]
   ·obtain⟨pre,post,h1,h2,h3⟩:=ih hs.2 hi
    have dc:=hs.1 i hi
    have dh:(x != i)=true:=by simp; omega
    by_cases hx:f x=true
    ·refine⟨x::pre,post,by simp[hx,h1],?_,by simp[cK,hx,dh,h3]⟩
     intro j hj
     rcases az.1 hj with rfl|hj
     ·exact ⟨dc,by simp,hx⟩
     ·obtain⟨a,b,c⟩:=h2 j hj
      exact ⟨a,by simp[b],c⟩
    ·refine⟨pre,post,by simp[hx,h1],?_,by simp[cK,hx,h3]⟩
     intro j hj
     obtain⟨a,b,c⟩:=h2 j hj
     exact ⟨a,by simp[b],c⟩
section
variable {E:Env} {N:Nm} {vs:List Tmp} {P:Program} {ops:Array Oper} {Q:Exit→Act→World→Prop}
theorem c2T {L:Nat→Option PFunc} (hF:Al N P L) (hE:EnvOk E N) (hP:E.P=P) (nm:Names vs (yk vs ops.toList)) {cf:yt} (dO:CallOK N P cf)
  (et:∀k args h r,cf k args h=some r→∃f,L k=some f) {pos:List PO} (hc:Ez E vs ops.toList ops.toList=some pos) (fS:E2 ops pos=true):
  ∀ (fuel : Nat) {listed : Array Bool} {st st' : St} {w : World} {G : GS} {a : Act}, listed.size = ops.size → (zR ops.size listed).length ≤ fuel → J6 ops listed → Am cf pos (zR ops.size listed) st = some st' →
    FI N w G st a vs (yk vs ops.toList)→Next1 N w G a st' vs ops.toList (Q .normal)→wpAny P .any ops Q fuel listed a w:=by
 have cY:ops.size=pos.length:=by have:=(E4 hc).1; simpa using this
 have ug:Iz ops (rows ops.toList 0 0):=N9 _ _ _ (by simp) (λi j _ h=>by simp at h)
 have fS:Oa ops pos (rows ops.toList 0 0)=true:=by rw[E2,Kj] at fS; exact fS
 have lJ:∀i o,ops[i]? = some o→∀e∈o.after,Region.binds .any e=true→e.on<i:=by
  intro i o ho e he hb
  have hi:i<ops.size:=(aX.1 ho).1
  have:=aN.1 fS i (by simpa using hi)
  simp only[ho,ap,Array.all_eq_true_iff_forall_mem] at this
  have:=this.1 e he
  simpa[hb] using this
 have lK:∀i j,i<ops.size→j<i→IA (rows ops.toList 0 0) pos i j=true:=by
  intro i j hi hj
  have:=aN.1 fS i (by simpa using hi)
  simp only[ap] at this
  exact aN.1 this.2 j (by simpa using hj)
 have jK:∀{listed:Array Bool},listed.size=ops.size→Region.ready .any ops listed=[]→zR ops.size listed=[]:=by
  intro listed dj hr
  rcases List.eq_nil_or_concat (zR ops.size listed) with h|⟨_,_,h⟩
  ·exact h
  ·exfalso
   cases fU:zR ops.size listed with
   | nil=>rw[fU] at h; simp at h
   | cons m rest =>
     have hm:m∈zR ops.size listed:=by rw[fU]; simp
     simp only[zR,cJ,List.mem_range,bG] at hm
     have ja:(zR ops.size listed).Pairwise (·<·):=List.Pairwise.filter _ List.pairwise_lt_range
     rw[fU,bR] at ja
     have mR:m∈Region.ready .any ops listed:=by
      rw[mem_ready]
      refine⟨?_,ops[m],by simp[hm.1],?_⟩
      ·have:=hm.2
       simp only[aV] at this ⊢
       have dc:m<listed.size:=by omega
       simpa[dc] using this
      ·intro e he hb
       have dc:=lJ m ops[m] (by simp[hm.1]) e he hb
       cases hl:listed.getD e.on false with
       | true=>rfl
       | false =>
         have dQ:e.on∈zR ops.size listed:=by
          simp only[zR,cJ,List.mem_range,hl,Bool.not_false,and_true]
          omega
         rw[fU] at dQ
         rcases az.1 dQ with h|h
         ·omega
         ·have:=ja.1 _ h; omega
     rw[hr] at mR
     simp at mR
 intro fuel
 induction fuel with
 | zero =>
   intro listed st st' w G a dj hl dH hx hf hk
   have h0:zR ops.size listed=[]:=bD.1 (by omega)
   rw[h0] at hx
   simp[Am] at hx; subst hx
   refine⟨?_,hk _ _ G hf (Ext.refl _ _) rfl⟩
   refine List.eq_nil_iff_forall_not_mem.2 λi hi =>?_
   rw[mem_ready] at hi
   obtain⟨gy,o,ho,_⟩:=hi
   have dc:i<ops.size:=(aX.1 ho).1
   have:i∈zR ops.size listed:=by
    simp only[zR,cJ,List.mem_range,dc,true_and]
    have mS:i<listed.size:=by omega
    simp only[aV] at gy ⊢
    simpa[mS] using gy
   rw[h0] at this
   simp at this
 | succ fuel ih =>
   intro listed st st' w G a dj hl dH hx hf hk
   refine⟨?_,?_⟩
   ·intro hr
    rw[jK dj hr] at hx
    simp[Am] at hx; subst hx
    exact hk _ _ G hf (Ext.refl _ _) rfl
   ·intro i hi
    rw[mem_ready] at hi
    obtain⟨gy,o,ho,gA⟩:=hi
    have dc:i<ops.size:=(aX.1 ho).1
    have ic:listed.getD i false=false:=by
     have mS:i<listed.size:=by omega
     simp only[aV] at gy ⊢
     simpa[mS] using gy
    obtain⟨q,hq,xH⟩:=(E4 hc).2 i o (by simpa using ho)
    obtain⟨pre,post,e1,e2,e3⟩:=Ta (f:=λk => !listed.getD k false) (List.pairwise_lt_range (n:=ops.size)) (by simpa using dc) (by simp only[ic]; rfl)
    have eT:Am cf pos (i::(pre++post)) st=some st':=by
     refine N8 hq ?_ (by rw[← e1]; exact hx)
     intro j hj
     obtain⟨a1,a2,a3⟩:=e2 j hj
     refine⟨by omega,λp hp =>?_⟩
     have np:=lK i j dc a1
     simp only[IA,hp,hq,bL] at np
     rcases np with h|h
     ·exact h
     ·simp only[ap,ay] at h
      have:=Tb dH (ug i j h.1 h.2) ho gA
      simp only[this] at a3
      simp at a3
    simp only[Am,hq,aj] at eT
    obtain⟨st1,fo,kI⟩:=eT
    refine Kb hF hE hP nm ho hf dO et xH fo ?_
    intro a' w' G' iP he eW
    have fU:zR ops.size (listed.setIfInBounds i true)=pre++post:=by
     rw[← e3]
     unfold zR
     apply List.filter_congr
     intro k dt
     by_cases kC:k=i
     ·subst kC
      have mS:k<listed.size:=by omega
      simp[aV,bi,mS]
     ·rw[getD_set_ne _ (Ne.symm kC)]
      simp[kC]
    refine ih (by simp[dj]) ?_ ?_ (by rw[fU]; exact kI) iP (hk.trans he eW)
    ·rw[fU]
     have:(zR ops.size listed).length=(pre++i::post).length:=by unfold zR; rw[e1]
     simp at this ⊢
     omega
    ·intro k o' eQ fm e dN hb
     by_cases kC:k=i
     ·subst kC
      have:o'=o:=by rw[ho] at eQ; simpa using eQ.symm
      subst this
      exact getD_set_true (gA e dN hb)
     ·rw[getD_set_ne _ (Ne.symm kC)] at fm
      exact getD_set_true (dH k o' eQ fm e dN hb)
end
end PI
set_option linter.unusedSimpArgs false
set_option linter.unusedVariables false
namespace PI
open Go
def W (r:Option Nat):Fence:={ Fence.wide with round:=r }
section
variable {P:Program} {r:Option Nat} {n:Nat} {ops:Array Oper} {Q:Exit→Act→World→Prop}
theorem Cq (f:FuncId):(W r).fn f:=trivial
theorem Ix (k:Nat):(W r).room k:=λd h=>by simp[W,Fence.wide] at h
theorem GC:(W r).depth.isSome=true→1≤n:=λh=>by simp[W,Fence.wide] at h
theorem Ke {f:FuncId} {args:Array Value} {w:World} {R:Ending→World→Prop} (h:Calls P f args w R):CallsIn (W r) n P f args w R:=(callsIn_wide (n:=n)).2 h
theorem c0X {f:FuncId} {args:Array Value} {w:World} {R:Ending→World→Prop} (h:CallsIn (W r) n P f args w R):Calls P f args w R:=(callsIn_wide (n:=n)).1 h
theorem d4y {row:String} {args:Array Value} {w:World} {R:Value→World→Prop} (h:Rows P row args w R):RowsIn (W r) n P row args w R:=
 λc cs _=>let ⟨v,w',hr,hs⟩:=h c cs; ⟨v,w',hr,stepsIn_wide.2 hs⟩
theorem c7v {o:Oper} {a:Act} {w:World} {K:Act→World→Prop} (hd:∀c,o.op≠.defer c) (h:o.wp P a w K Q):o.wpIn (W r) n P a w K Q:=by
 refine⟨λ_ _=>Cq _,?_⟩
 rw[Oper.semAt_eq _ _ _ hd]
 unfold Oper.wp at h
 generalize (execOp a.eval o).run P w=res at h
 cases res with
 | ok x w' =>
   cases x<;>simp only[Oper.upon] at h<;>simp only[Oper.uponIn]<;>first|exact h|exact⟨GC,Ke h⟩|exact⟨GC,d4y h⟩|exact h.elim
 | halt x w'=>cases x<;>simp only[Oper.upon] at h<;>simp only[Oper.uponIn]<;>first | exact h | exact h.elim
theorem NK {i:Nat} {a:Act} {w:World} {K:Act→World→Prop} (hd:∀o c,ops[i]? = some o→o.op≠.defer c) (hQ:¬LetsOut Q) (h:wpOp P ops Q i K a w):wpOpIn (W r) n P ops Q i K a w:=by
 unfold wpOp at h
 unfold wpOpIn
 split
 ·rename_i ho; simp only[ho] at h; exact h
 ·rename_i o ho
  simp only[ho] at h
  split
  ·rename_i hw
   simp only[hw,if_true] at h
   rcases h with h|h
   ·exact c7v (λc=>hd o c ho) h
   ·exact absurd h.2 hQ
  ·rename_i hw
   simp only[hw] at h
   exact⟨λ_ _=>Cq _,h⟩
theorem NG (hd:∀(i:Nat) o c,ops[i]? = some o→o.op≠.defer c) (hQ:¬LetsOut Q):∀{l:List Nat} {a:Act} {w:World},wpOps P ops Q l a w→wpOpsIn (W r) n P ops Q l a w
 | [],_,_,h=>h
 | i :: l, a, w, h => by
   rw[wpOps_cons] at h
   rw[wpOpsIn_cons]
   exact wpOpIn_mono (λa w h=>NG hd hQ h) (NK (λo c=>hd i o c) hQ h)
def N4 (P:Program) (l:Nat) (R:Ending→World→Prop):Exit→Act→World→Prop
 | .normal,_,w=>∃v w',(Instr.endRound l none).run P w = .ok v w'∧R (.returned v) w'
 | .ret,_,w=>∃v w',(Instr.endRound l (some .ret)).run P w = .ok v w'∧R (.returned v) w'
 | .exit id,_,w=>∃v w',(Instr.endRound l (some (.exit id))).run P w = .ok v w'∧R (.returned v) w'
 | .panic chain,a,w=>a.defers=[]∧R (.panicked chain) w
 | _,_,_=>False
theorem By (m:Machine):m.fenced P (W r):=fenced_wide P m
theorem b2r {fr c:Frame} {cs:List Frame} {w:World} {chain:List PanicEntry} {fn:Func} (hm:fr.mode = .panicking chain) (hd:fr.defers=[]) (hf:P.funcs[fr.fn]? = some fn):
  step P (lone fr (c::cs) w) = .next (lone (c.raise chain) cs w):=
 step_lone_go (by simp[stepG,unwind,Frame.catches,hm,hd,hf])
end
noncomputable def Bx (cf:yt) (ob:Aa) (pos:List PO):List Nat→St→Option (Option PV×St)
 | [],st=>some (none,st)
 | i :: l, st =>
   match pos[i]? with
   | some p => match Az cf ob i p st with
     | some (none,st)=>Bx cf ob pos l st
     | r=>r
   | none=>none
section
variable {cf:yt} {ob:Aa} {pos:List PO}
theorem S7 {j:Nat} {p:PO} {st:St} (h:isB p=false):Az cf ob j p st=(zm cf j p st).map λst=>(none,st):=by
 unfold Az
 unfold isB at h
 split
 ·rename_i h1 h2; rw[h1] at h; simp at h
 ·rename_i h1 h2; rw[h1] at h; simp at h
 ·rename_i h1 h2; rw[h1] at h; simp at h
 ·rename_i h1 h2; rw[h1] at h; simp at h
 ·rfl
theorem N6:∀{l:List Nat} {st:St},(∀i∈l,∀p,pos[i]? = some p→isB p=false)→Bx cf ob pos l st=(Am cf pos l st).map λst=>(none,st)
 | [],st,_=>rfl
 | i :: l, st, h => by
   simp only[Bx,Am]
   cases hp:pos[i]? with
   | none=>rfl
   | some p =>
     simp only[S7 (h i (by simp) p hp)]
     cases zm cf i p st with
     | none=>rfl
     | some st1=>simpa using N6 (λj hj=>h j (by simp[hj]))
theorem N7:∀(l1 l2:List Nat) (st:St),Bx cf ob pos (l1++l2) st=match Bx cf ob pos l1 st with
  | some (none,st)=>Bx cf ob pos l2 st
  | r=>r
 | [],l2,st=>rfl
 | i :: l1, l2, st => by
   simp only[aK,Bx]
   cases hp:pos[i]? with
   | none=>rfl
   | some p =>
     simp only
     cases Az cf ob i p st with
     | none=>rfl
     | some x =>
       obtain⟨y,st1⟩:=x
       cases y with
       | none=>exact N7 l1 l2 st1
       | some v=>rfl
theorem SC {all:List PO}:∀{os:List PO} {j:Nat} {st:St},all.drop j=os→zU cf ob j os st=Bx cf ob all (List.range' j os.length) st
 | [],j,st,_=>rfl
 | o :: os, j, st, h => by
   have hj:all[j]? = some o:=by
    have:=aL List.head? h
    simpa[List.head?_drop] using this
   have ht:all.drop (j+1)=os:=by
    have:=aL List.tail h
    simpa[List.tail_drop] using this
   simp only[zU,aB,List.range'_succ,Bx,hj]
   cases Az cf ob j o st with
   | none=>rfl
   | some x =>
     obtain⟨y,st1⟩:=x
     cases y with
     | none=>exact SC ht
     | some v=>rfl
theorem b8W {i:Nat} {q:PO} (hi:pos[i]? = some q) {pre post:List Nat} {st:St} {r:Option PV×St} (hb:pre≠[]→isB q=false) (gA:∀j∈pre,∀p,pos[j]? = some p→isB p=false)
  (hc:∀j∈pre,j≠i∧∀p,pos[j]? = some p→GE j p i q=true) (h:Bx cf ob pos (pre++i::post) st=some r):Bx cf ob pos (i::(pre++post)) st=some r:=by
 cases pre with
 | nil=>exact h
 | cons j0 pre0 =>
   have hq:isB q=false:=hb (by simp)
   generalize gm:j0::pre0=pre at *
   have e1:pre++i::post=(pre++[i])++post:=by simp
   have e2:i::(pre++post)=(i::pre)++post:=rfl
   have p1:∀k∈pre++[i],∀p,pos[k]? = some p→isB p=false:=by
    intro k hk p hp
    rcases aw.1 hk with hk|hk
    ·exact gA k hk p hp
    ·simp at hk; subst hk; rw[hi] at hp; simp at hp; subst hp; exact hq
   have p2:∀k∈i::pre,∀p,pos[k]? = some p→isB p=false:=by
    intro k hk p hp
    rcases az.1 hk with rfl|hk
    ·rw[hi] at hp; simp at hp; subst hp; exact hq
    ·exact gA k hk p hp
   rw[e1,N7,N6 p1] at h
   rw[e2,N7,N6 p2]
   cases hx:Am cf pos (pre++[i]) st with
   | none=>rw[hx] at h; simp at h
   | some st1 =>
     have:=N8 hi hc (post:=[]) hx
     rw[aW] at this
     rw[this]
     rw[hx] at h
     exact h
theorem S8 {p:PO} (h:isB p=true):zf p.op=2:=by
 unfold isB at h
 split at h<;>first|(rename_i e; rw[e]; rfl)|simp at h
theorem S9 {i j:Nat} {p q:PO} (h:GE j p i q=true):isB p=false∧isB q=false:=by
 rcases Bool.or_eq_true_iff.1 h with h|h
 rotate_left
 ·unfold Kf at h
  split at h
  ·rename_i hp hq
   rw[Kg hp,Kh hq]; exact⟨rfl,rfl⟩
  ·split at h
   ·rename_i hp hq
    rw[Kh hp,Kg hq]; exact⟨rfl,rfl⟩
   ·cases h
 simp only[Ki,ap,bne_iff_ne,ne_eq] at h
 obtain⟨h1,h2⟩:=h.1.1.1.1.1.1.1.1.1.1.1
 exact⟨by cases hp:isB p with | false=>rfl | true=>exact absurd (S8 hp) h1,by cases hp:isB q with | false=>rfl | true=>exact absurd (S8 hp) h2⟩
end
theorem c7x {ops:Array Oper} {pos:List PO} {cf:yt} {ob:Aa} (cY:ops.size=pos.length) (fS:E2 ops pos=true):
  ∀ (fuel t : Nat) {listed : Array Bool} {st : St} {r : Option PV × St}, listed.size = ops.size → (zR ops.size listed).length ≤ fuel → J6 ops listed → Bx cf ob pos (zR ops.size listed) st = some r →
    Bx cf ob pos (Region.linearise.go .any ops fuel t listed []) st=some r:=by
 have ug:Iz ops (rows ops.toList 0 0):=N9 _ _ _ (by simp) (λi j _ h=>by simp at h)
 have fS:Oa ops pos (rows ops.toList 0 0)=true:=by rw[E2,Kj] at fS; exact fS
 have lJ:∀i o,ops[i]? = some o→∀e∈o.after,Region.binds .any e=true→e.on<i:=by
  intro i o ho e he hb
  have hi:i<ops.size:=(aX.1 ho).1
  have:=aN.1 fS i (by simpa using hi)
  simp only[ho,ap,Array.all_eq_true_iff_forall_mem] at this
  have:=this.1 e he
  simpa[hb] using this
 have lK:∀i j,i<ops.size→j<i→IA (rows ops.toList 0 0) pos i j=true:=by
  intro i j hi hj
  have:=aN.1 fS i (by simpa using hi)
  simp only[ap] at this
  exact aN.1 this.2 j (by simpa using hj)
 have jK:∀{listed:Array Bool},listed.size=ops.size→Region.ready .any ops listed=[]→zR ops.size listed=[]:=by
  intro listed dj hr
  rcases List.eq_nil_or_concat (zR ops.size listed) with h|⟨_,_,h⟩
  ·exact h
  ·exfalso
   cases fU:zR ops.size listed with
   | nil=>rw[fU] at h; simp at h
   | cons m rest =>
     have hm:m∈zR ops.size listed:=by rw[fU]; simp
     simp only[zR,cJ,List.mem_range,bG] at hm
     have ja:(zR ops.size listed).Pairwise (·<·):=List.Pairwise.filter _ List.pairwise_lt_range
     rw[fU,bR] at ja
     have mR:m∈Region.ready .any ops listed:=by
      rw[mem_ready]
      refine⟨?_,ops[m],by simp[hm.1],?_⟩
      ·have:=hm.2
       simp only[aV] at this ⊢
       have dc:m<listed.size:=by omega
       simpa[dc] using this
      ·intro e he hb
       have dc:=lJ m ops[m] (by simp[hm.1]) e he hb
       cases hl:listed.getD e.on false with
       | true=>rfl
       | false =>
         have dQ:e.on∈zR ops.size listed:=by
          simp only[zR,cJ,List.mem_range,hl,Bool.not_false,and_true]
          omega
         rw[fU] at dQ
         rcases az.1 dQ with h|h
         ·omega
         ·have:=ja.1 _ h; omega
     rw[hr] at mR
     simp at mR
 intro fuel
 induction fuel with
 | zero =>
   intro t listed st r dj hl dH hx
   have h0:zR ops.size listed=[]:=bD.1 (by omega)
   rw[h0] at hx
   simpa[Region.linearise.go] using hx
 | succ fuel ih =>
   intro t listed st r dj hl dH hx
   simp only[Region.linearise.go]
   change Bx cf ob pos (match (Region.ready .any ops listed)[t % (Region.ready .any ops listed).length]? with
    | some i=>Region.linearise.go .any ops fuel (t / (Region.ready .any ops listed).length) (listed.setIfInBounds i true) [i]
    | none=>[].reverse) st=some r
   cases hi:(Region.ready .any ops listed)[t % (Region.ready .any ops listed).length]? with
   | none =>
     have jL:Region.ready .any ops listed=[]:=by
      cases hr:Region.ready .any ops listed with
      | nil=>rfl
      | cons x xs =>
        rw[hr] at hi
        have dc:t % (x::xs).length<(x::xs).length:=bV _ (by simp)
        simp at hi
        simp at dc
        omega
     rw[jK dj jL] at hx
     simpa using hx
   | some i =>
     simp only[]
     rw[linearise_go_acc,List.reverse_singleton,List.singleton_append]
     have hi:=ax hi
     rw[mem_ready] at hi
     obtain⟨gy,o,ho,gA⟩:=hi
     have dc:i<ops.size:=(aX.1 ho).1
     have ic:listed.getD i false=false:=by
      have mS:i<listed.size:=by omega
      simp only[aV] at gy ⊢
      simpa[mS] using gy
     obtain⟨q,hq⟩:∃q,pos[i]? = some q:=⟨pos[i],an (by omega)⟩
     obtain⟨pre,post,e1,e2,e3⟩:=Ta (f:=λk => !listed.getD k false) (List.pairwise_lt_range (n:=ops.size)) (by simpa using dc) (by simp only[ic]; rfl)
     have gQ:∀j∈pre,j<i∧∀p,pos[j]? = some p→GE j p i q=true:=by
      intro j hj
      obtain⟨a1,a2,a3⟩:=e2 j hj
      refine⟨by omega,λp hp =>?_⟩
      have np:=lK i j dc a1
      simp only[IA,hp,hq,bL] at np
      rcases np with h|h
      ·exact h
      ·simp only[ap,ay] at h
       have:=Tb dH (ug i j h.1 h.2) ho gA
       simp only[this] at a3
       simp at a3
     have eT:Bx cf ob pos (i::(pre++post)) st=some r:=by
      refine b8W hq ?_ (λj hj p hp=>(S9 ((gQ j hj).2 p hp)).1) (λj hj=>⟨by have:=(gQ j hj).1; omega,λp hp=>(gQ j hj).2 p hp⟩) (by rw[← e1]; exact hx)
      intro dh
      cases pre with
      | nil=>exact absurd rfl dh
      | cons j0 _ =>
        have pG:j0<pos.length:=by have:=(gQ j0 (by simp)).1; omega
        exact(S9 ((gQ j0 (by simp)).2 pos[j0] (an pG))).2
     simp only[Bx,hq] at eT ⊢
     cases hs:Az cf ob i q st with
     | none=>rw[hs] at eT; exact eT
     | some y =>
       obtain⟨z,st1⟩:=y
       rw[hs] at eT
       cases z with
       | some v=>exact eT
       | none =>
         simp only at eT ⊢
         have fU:zR ops.size (listed.setIfInBounds i true)=pre++post:=by
          rw[← e3]
          unfold zR
          apply List.filter_congr
          intro k dt
          by_cases kC:k=i
          ·subst kC
           have mS:k<listed.size:=by omega
           simp[aV,bi,mS]
          ·rw[getD_set_ne _ (Ne.symm kC)]
           simp[kC]
         refine ih _ (by simp[dj]) ?_ ?_ (by rw[fU]; exact eT)
         ·rw[fU]
          have:(zR ops.size listed).length=(pre++i::post).length:=by unfold zR; rw[e1]
          simp at this ⊢
          omega
         ·intro k o' eQ fm e dN hb
          by_cases kC:k=i
          ·subst kC
           have:o'=o:=by rw[ho] at eQ; simpa using eQ.symm
           subst this
           exact getD_set_true (gA e dN hb)
          ·rw[getD_set_ne _ (Ne.symm kC)] at fm
           exact getD_set_true (dH k o' eQ fm e dN hb)
end PI
set_option linter.unusedSimpArgs false
set_option linter.unusedVariables false
namespace PI
open Go Go.RowKit
def GS.callee (G:GS):GS:={ fix:=G.fix,heap:=G.heap,box:=λ_=>none,ow:=Bl G.ow }
section
variable {E:Env} {N:Nm} {w:World} {G:GS} {st:St} {a:Act} {vs:List Tmp} {lm:Nat→Option Tmp} {P:Program}
theorem Gs (hf:FI N w G st a vs lm):Between N w G.callee st.heap:=
 ⟨⟨λb k h=>(GB h).2,λ_=>rfl⟩,hf.fixlt,λb k h=>hf.owlt b k (GB h).1,hf.heap.sub rfl rfl (λb k hk h=>N2 h hk),hf.hdom⟩
theorem Kd (hf:FI N w G st a vs lm) {w':World} {G2:GS} {h':List PObj} (he:Ext w G.callee w' G2) (dK:Between N w' G2 h'):
  ∃G',Ext w G w' G'∧FI N w' G' { st with heap:=h' } a vs lm∧G'.fix=G2.fix∧G'.heap=G2.heap:=by
 let Gc:GS:=G.callee
 let G':GS:={ fix:=G2.fix,heap:=G2.heap,box:=G.box,ow:=λb=>match G.ow b with | some k=>if k.isH then G2.ow b else some k | none=>G2.ow b,df:=G.df }
 have cX:Ext w G w' G':=by
  refine⟨he.os,he.tape,he.output,he.size,λb dc h=>he.same b dc (by simp[GS.callee,Bl,h]),λb o h=>he.fix b o h,?_,?_,he.heap,he.shape,rfl⟩
  ·intro b o h
   rcases he.newfix b o h with h|h|h
   ·exact .inl h
   ·exact .inr (.inl h)
   ·refine .inr (.inr ?_)
    intro e
    apply h
    simp[GS.callee,Bl,e]
  ·intro b h
   cases hb:G.ow b with
   | some k=>exact .inr (by simp)
   | none =>
     simp only[G',hb] at h
     rcases he.own b h with h|h
     ·exact .inl h
     ·exact absurd (by simp[GS.callee,Bl,hb]) h
 have db:zu (λk=>k.isH=true) w G w' G':=by
  refine⟨?_,λ_ _ h=>h⟩
  intro b key dn hn
  have eK:=hf.owlt _ _ dn
  have eG:Gc.ow b=none:=by simp[Gc,GS.callee,Bl,dn,hn]
  refine⟨by simp[G',dn,hn],he.same b eK eG,?_⟩
  intro o h
  rcases he.newfix b o h with h|h|h
  ·exact h
  ·omega
  ·exact absurd eG h
 have eo:HR N w' G' h':=by
  refine dK.heap.sub rfl rfl ?_
  intro b k x7 h
  cases hb:G.ow b with
  | none=>simp only[G',hb]; exact h
  | some k0 =>
    by_cases kH:k0.isH=true
    ·simp only[G',hb,kH,if_true]; exact h
    ·have eG:Gc.ow b=none:=by simp[Gc,GS.callee,Bl,hb,kH]
     have dc:=hf.owlt _ _ hb
     rcases he.own b (by rw[h]; simp) with h2|h2
     ·omega
     ·exact absurd eG h2
 have dD:FI N w' G' { st with heap:=h' } a vs lm:=by
  refine⟨hf.len,λi t u h1 h2=>(hf.var i t u h1 h2).keep cX db (by simp[Key.isH]) (by simp[Key.isH]),λj t u h1 h2=>(hf.loc j t u h1 h2).keep cX db (by simp[Key.isH]) (by simp[Key.isH]),hf.tv,hf.tl,(hf.defers.trans cX.df.symm),hf.gen,?_,dK.fixlt,eo,dK.hdom⟩
  intro b k h
  cases hb:G.ow b with
  | some k0=>exact aP (hf.owlt _ _ hb) he.size
  | none =>
    simp only[G',hb] at h
    exact dK.owlt _ _ h
 exact⟨G',cX,dD,rfl,rfl⟩
def OutR (N:Nm) (w':World) (G':GS) (e:Ending):Out→Prop
 | .val r=>∃v,e = .returned v∧VR N w' G'.fix G'.heap v r
 | .boom p=>∃v,e = .panicked [{ v,recovered:=false }]∧VR N w' G'.fix G'.heap v p
def Gp (N:Nm) (P:Program) (ob:Aa):Prop:=
 ∀ (k : Nat) (args : List PV) (o : Out) (h h' : List PObj), ob k args h = some (o, h') → N.yl k = none → ∀ (w : World) (G : GS) (vals : Array Value), Between N w G h → vals.size = args.length →
   (∀(i:Nat) (v:Value) (p:PV),vals[i]? = some v→args[i]? = some p→VR N w G.fix G.heap v p) →
   Calls P (N.fn k) vals w λe w'=>∃G',OutR N w' G' e o∧Ext w G w' G'∧Between N w' G' h'
def Iq (N:Nm) (P:Program) (ob:Aa):Prop:=
 ∀ (k : Nat) (y : YL) (n l : Nat) (tmps : Array Value) (caps args : List PV) (o : Out) (h h' : List PObj), N.yl k = some y → ob k (.ptr n 0 :: caps ++ args) h = some (o, h') → ∀ (w : World) (G : GS) (vals : Array Value), Between N w G h →
   VR N w G.fix G.heap (.func (.yield l) #[] #[]) (.func k (.ptr n 0::caps) [])→vals.size=args.length→(∀(i:Nat) (v:Value) (p:PV),vals[i]? = some v→args[i]? = some p→VR N w G.fix G.heap v p) →
   ∃tmps',(Instr.yield l vals).run P w = .ok (.round l y.fn tmps' y.assign y.body) w∧∀r n',RoundIn (W r) n' P l y.fn tmps' y.assign y.body w λe w'=>∃G',OutR N w' G' e o∧Ext w G w' G'∧Between N w' G' h'
variable {ops:Array Oper} {o:Oper} {j:Nat} {Q:Exit→Act→World→Prop} {K:Act→World→Prop} {r:Option Nat} {n:Nat}
def KG (N:Nm) (w:World) (G:GS) (a:Act) (st1:St) (vs:List Tmp) (lm:Nat→Option Tmp) (p:PV) (Q:Exit→Act→World→Prop):Prop:=
 ∀w' G' v,VR N w' G'.fix G'.heap v p→Ext w G w' G'→FI N w' G' st1 a vs lm→Q (.panic [{ v,recovered:=false }]) a w'
theorem O0 (nm:Names vs (yk vs ops.toList)) (ho:ops[j]? = some o) (hf:FI N w G st a vs (yk vs ops.toList)) {out:Out} {h':List PObj} (hQ:¬LetsOut Q)
  (hv:∀u,out = .val u→Next1 N w G a (put { st with heap:=h' } j (yR vs o.dst) (dem u)) vs ops.toList K) (hb:∀p,out = .boom p→KG N w G a { st with heap:=h' } vs (yk vs ops.toList) p Q)
  {e:Ending} {w':World} {G2:GS} (h:OutR N w' G2 e out) (he:Ext w G.callee w' G2) (dK:Between N w' G2 h'):
  (match e with
   | .returned v=>K (a.put o.dst v) w'
   | .panicked chain=>Q (.panic chain) a w'
   | .outgrown=>LetsOut Q):=by
 obtain⟨G',cX,dD,e1,e2⟩:=Kd hf he dK
 cases out with
 | val u =>
   obtain⟨v,rfl,di⟩:=h
   have gD:VR N w' G'.fix G'.heap v (dem u):=by rw[e1,e2]; exact di.dem
   exact hv u rfl _ _ G' (dD.put nm (BH (by simpa using ho)) (SR.of_pure gD di.cp_dem)) cX (BJ _ _ _)
 | boom p =>
   obtain⟨v,rfl,di⟩:=h
   exact hb p rfl w' G' v (by rw[e1,e2]; exact di) cX dD
theorem Un {c:Call} (cZ:o.op = .call c) (ρ:Operand→Value):o.semAt (W r).round ρ=execOp ρ o:=Oper.semAt_eq _ _ _ (λc' h=>by rw[cZ] at h; cases h)
theorem Uo {L:Nat→Option PFunc} (hF:Al N P L) (hE:EnvOk E N) (nm:Names vs (yk vs ops.toList)) (ho:ops[j]? = some o) (hf:FI N w G st a vs (yk vs ops.toList)) {ob:Aa} (dU:Gp N P ob) (jG:∀k args h x,ob k args h=some x→∃f,L k=some f)
  {f:FuncId} {k:Nat} {xs:Array Operand} {ts:Array TypeId} {pxs:List PX} {args:List PV} (cZ:o.op = .call { callee := .value (.func f),args:=xs,argTypes:=ts }) (dt:E.inv f=some k) (hx:cxs E vs ops.toList xs.toList=some pxs)
  (eV:rdAll st pxs=some args) {out:Out} {h':List PObj} (hc:ob k args st.heap=some (out,h')) (hQ:¬LetsOut Q)
  (hv:∀u,out = .val u→Next1 N w G a (put { st with heap:=h' } j (yR vs o.dst) (dem u)) vs ops.toList K) (hb:∀p,out = .boom p→KG N w G a { st with heap:=h' } vs (yk vs ops.toList) p Q):o.wpIn (W r) n P a w K Q:=by
 obtain⟨h1,h2⟩:=Cr hE hf hx eV
 obtain⟨g1,g2⟩:=DJ (w:=w) (G:=G) h1 h2
 obtain⟨pf,hL⟩:=jG _ _ _ _ hc
 have eH:=hE.fn _ _ dt
 refine⟨λ_ _=>Cq _,?_⟩
 rw[Un cZ]
 have da:(execOp a.eval o).run P w = .ok (.enter (N.fn k) (xs.map a.eval)) w:=by
  have:=Dg hF hL (xs.map a.eval) w
  rw[eH] at this
  rw[eH]
  simp[execOp,cZ,resolve,Act.eval,Deferred.ofValue,invoke]
  exact this
 rw[da,Oper.uponIn_enter]
 refine⟨GC,Ke ?_⟩
 refine(dU k args out st.heap h' hc (hE.yl _ _ dt) w G.callee (xs.map a.eval) (Gs hf) g1 g2).mono ?_
 rintro e w' ⟨G2,hR,he,dK⟩
 have:=O0 nm ho hf hQ hv hb hR he dK
 cases e<;>exact this
theorem Up {L:Nat→Option PFunc} (hF:Al N P L) (hE:EnvOk E N) (nm:Names vs (yk vs ops.toList)) (ho:ops[j]? = some o) (hf:FI N w G st a vs (yk vs ops.toList)) {ob:Aa} (dU:Gp N P ob) (eu:Iq N P ob) (jG:∀k args h x,ob k args h=some x→∃f,L k=some f)
  {t:Tmp} {px:PX} {k:Nat} {first captured:List PV} {xs:Array Operand} {ts:Array TypeId} {pxs:List PX} {args:List PV} (cZ:o.op = .call { callee := .value (.tmp t),args:=xs,argTypes:=ts }) (gn:cx E vs ops.toList (.tmp t)=some px) (hx:cxs E vs ops.toList xs.toList=some pxs)
  (ny:rd st px=some (.func k first captured)) (eV:rdAll st pxs=some args) {out:Out} {h':List PObj} (hc:ob k (first++args++captured) st.heap=some (out,h')) (hQ:¬LetsOut Q)
  (hv:∀u,out = .val u→Next1 N w G a (put { st with heap:=h' } j (yR vs o.dst) (dem u)) vs ops.toList K) (hb:∀p,out = .boom p→KG N w G a { st with heap:=h' } vs (yk vs ops.toList) p Q):o.wpIn (W r) n P a w K Q:=by
 obtain⟨h1,h2⟩:=Cr hE hf hx eV
 obtain⟨g1,g2⟩:=DJ (w:=w) (G:=G) h1 h2
 obtain⟨pf,hL⟩:=jG _ _ _ _ hc
 have jf:=(yT hE gn hf ny).1
 refine⟨λ_ _=>Cq _,?_⟩
 rw[Un cZ]
 generalize eI:a.eval (.tmp t)=v at jf
 cases jf with
 | yield _ m l y tmps caps hy hl hr cY dj dl =>
   have di:VR N w G.callee.fix G.callee.heap (.func (.yield l) #[] #[]) (.func k (.ptr m 0::caps) []) := .yield k m l y tmps caps hy hl hr cY dj dl
   rw[aW] at hc
   obtain⟨tmps',qo,ff⟩:=eu k y m l tmps caps args out st.heap h' hy hc w G.callee (xs.map a.eval) (Gs hf) di g1 g2
   have da:(execOp a.eval o).run P w = .ok (.round l y.fn tmps' y.assign y.body) w:=by
    simp only[execOp,cZ,resolve,Sem.run_bind,eI,Deferred.ofValue,Sem.run_pure,Result.andThen_ok,invoke]
    simpa using qo
   rw[da,Oper.uponIn_round]
   refine⟨GC,(ff r (n - 1)).mono ?_⟩
   rintro e w' ⟨G2,hR,he,dK⟩
   have:=O0 nm ho hf hQ hv hb hR he dK
   cases e<;>exact this
 | func _ fs cs _ _ hy e1 e2 mI d9 =>
   have da:(execOp a.eval o).run P w = .ok (.enter (N.fn k) (fs++xs.map a.eval++cs)) w:=by
    have:=Dg hF hL (fs++xs.map a.eval++cs) w
    simp only[execOp,cZ,resolve,Sem.run_bind,eI,Deferred.ofValue,Sem.run_pure,Result.andThen_ok,invoke]
    exact this
   rw[da,Oper.uponIn_enter]
   refine⟨GC,Ke ?_⟩
   refine(dU k _ out st.heap h' hc hy w G.callee (fs++xs.map a.eval++cs) (Gs hf) (by simp[e1,e2]; simpa using h1) ?_).mono ?_
   ·intro i v p ea hp
    by_cases hi:i<fs.size
    ·rw[co,bp hi] at ea
     rw[aI,al (by omega)] at hp
     exact mI i v p ea hp
    ·rw[co,cq (by omega)] at ea
     rw[aI,aq (by omega),← e1] at hp
     by_cases ez:i - fs.size<(xs.map a.eval).size
     ·rw[bp ez] at ea
      rw[al (by omega)] at hp
      exact g2 _ v p ea hp
     ·rw[cq (by omega)] at ea
      rw[aq (by omega),← g1] at hp
      exact d9 _ v p ea hp
   ·rintro e w' ⟨G2,hR,he,dK⟩
    have:=O0 nm ho hf hQ hv hb hR he dK
    cases e<;>exact this
theorem SB {L:Nat→Option PFunc} (hF:Al N P L) (hE:EnvOk E N) (hP:E.P=P) (nm:Names vs (yk vs ops.toList)) (ho:ops[j]? = some o) (hf:FI N w G st a vs (yk vs ops.toList)) {cf:yt} (dO:CallOK N P cf) {ob:Aa} (dU:Gp N P ob) (eu:Iq N P ob)
  (et:∀k args h x,cf k args h=some x→∃f,L k=some f) (jG:∀k args h x,ob k args h=some x→∃f,L k=some f) (hd:∀c,o.op≠.defer c) {po:PO} (hc:Ir E vs ops.toList o=some po) {res:Option PV} {st1:St} (hs:Az cf ob j po st=some (res,st1)) (hQ:¬LetsOut Q)
  (hk:res=none→Next1 N w G a st1 vs ops.toList K) (hb:∀p,res=some p→KG N w G a st1 vs (yk vs ops.toList) p Q):wpOpIn (W r) n P ops Q j K a w:=by
 have plain:∀{po:PO},Iv E vs ops.toList o=some po→Az cf ob j po st=some (res,st1)→wpOpIn (W r) n P ops Q j K a w:=by
  intro po hc hs
  simp only[Iv,aj] at hc
  obtain⟨p,hp,hc⟩:=hc
  split at hc
  ·simp at hc
  ·rename_i yd
   simp only[aa] at hc
   subst hc
   rw[S7 (by simpa using yd)] at hs
   simp only[ab,ac] at hs
   obtain⟨st2,h1,rfl,rfl⟩:=hs
   refine NK (λo' c eQ =>?_) hQ (Kb hF hE hP nm ho hf dO et hp h1 (hk rfl))
   rw[ho] at eQ
   simp only[aa] at eQ
   subst eQ
   exact hd c
 unfold Ir at hc
 split at hc
 ·rename_i dst f xs ts ty pos aft
  split at hc
  ·simp only[aj,ab] at hc
   obtain⟨k,dt,ps,ey,rfl⟩:=hc
   simp only[Az] at hs
   split at hs
   ·rename_i us eV
    unfold wpOpIn
    simp only[ho,Region.wanted,if_true]
    split at hs
    ·rename_i u h' dr
     simp only[aa,ac] at hs
     obtain⟨rfl,rfl⟩:=hs
     exact Uo hF hE nm ho hf dU jG rfl dt ey eV dr hQ (λu' e=>by cases e; exact hk rfl) (λp e=>by cases e)
    ·rename_i v h' dr
     simp only[aa,ac] at hs
     obtain⟨rfl,rfl⟩:=hs
     exact Uo hF hE nm ho hf dU jG rfl dt ey eV dr hQ (λu' e=>by cases e) (λp e=>by cases e; exact hb _ rfl)
    ·simp at hs
   ·simp at hs
  ·exact plain hc hs
 ·rename_i dst t xs ts ty pos aft
  split at hc
  ·simp only[aj,ab] at hc
   obtain⟨px,gn,ps,ey,rfl⟩:=hc
   simp only[Az] at hs
   split at hs
   ·rename_i k first captured us ny eV
    unfold wpOpIn
    simp only[ho,Region.wanted,if_true]
    split at hs
    ·rename_i u h' dr
     simp only[aa,ac] at hs
     obtain⟨rfl,rfl⟩:=hs
     exact Up hF hE nm ho hf dU eu jG rfl gn ey ny eV dr hQ (λu' e=>by cases e; exact hk rfl) (λp e=>by cases e)
    ·rename_i v h' dr
     simp only[aa,ac] at hs
     obtain⟨rfl,rfl⟩:=hs
     exact Up hF hE nm ho hf dU eu jG rfl gn ey ny eV dr hQ (λu' e=>by cases e) (λp e=>by cases e; exact hb _ rfl)
    ·simp at hs
   ·simp at hs
  ·exact plain hc hs
 ·exact plain hc hs
end
end PI
set_option linter.unusedSimpArgs false
set_option linter.unusedVariables false
namespace PI
open Go
def wpN (r:Option Nat) (fid:FuncId) (P:Program) (c:Code) (Q:Exit→Act→World→Prop) (a:Act) (w:World):Prop:=
 ∀ (b : Frame) (k : List Item) (cs : List Frame), b.roundOf = r → b.fn = fid →
   ∃e a' w',Q e a' w'∧ArrivesIn (Machine.fenced P (W r)) P (lone (b.atR a (.code c::k)) cs w) b k cs e a' w'
section
variable {P:Program} {r:Option Nat} {fid:FuncId} {n:Nat} {Q:Exit→Act→World→Prop} {a:Act} {w:World}
theorem E5 {c:Code} (h:c.wpIn (W r) n P Q a w):wpN r fid P c Q a w:=λb k cs eu _=>h b k cs eu (Cq _) (Ix _)
theorem c5t {c:Code} {Q':Exit→Act→World→Prop} (h:wpN r fid P c Q a w) (hq:∀e a w,Q e a w→Q' e a w):wpN r fid P c Q' a w:=
 λb k cs eu hb=>let ⟨e,a',w',q,r⟩:=h b k cs eu hb; ⟨e,a',w',hq _ _ _ q,r⟩
theorem c5u (h:Q .normal a w):wpN r fid P .skip Q a w:=λ_ _ _ _ _=>⟨.normal,a,w,h,.one (By _) stepR_skip⟩
theorem SE {id:Nat} (h:Q (.exit id) a w):wpN r fid P (.exit id) Q a w:=
 λ_ k _ _ _=>⟨.exit id,a,w,h,λ_ hk => .one (By _) (stepR_exit hk),λ_ hk=>⟨k,hk,.refl _⟩⟩
theorem SG (h:Q .ret a w):wpN r fid P .ret Q a w:=
 λ_ k _ _ _=>⟨.ret,a,w,h,λhn=>⟨_,.one (By _) (stepR_ret hn)⟩,λ_=>⟨k,.refl _⟩⟩
theorem FK {x y:Code} (h:wpN r fid P x (Exit.then (wpN r fid P y Q) Q) a w):wpN r fid P (.seq x y) Q a w:=by
 intro b k cs eu hb
 have h0:(lone (b.atR a (.code (.seq x y)::k)) cs w).fenced P (W r):=By _
 obtain⟨e,a₁,w₁,hq,dP⟩:=h b (.code y::k) cs eu hb
 cases e with
 | normal =>
   obtain⟨e₂,a₂,w₂,hq₂,harr₂⟩:=hq b k cs eu hb
   exact⟨e₂,a₂,w₂,hq₂,.of_steps (.head h0 stepR_seq dP) harr₂⟩
 | exit id=>exact⟨_,a₁,w₁,hq,.of_steps (.one h0 stepR_seq) (.pass (x := .code y) rfl (λ_ _ => .inl (by simp)) dP)⟩
 | goto l=>exact⟨_,a₁,w₁,hq,.of_steps (.one h0 stepR_seq) (.pass (x := .code y) rfl (λ_ _ => .inl (by simp)) dP)⟩
 | ret=>exact⟨_,a₁,w₁,hq,.of_steps (.one h0 stepR_seq) (.pass (x := .code y) rfl (λ_ _ => .inl (by simp)) dP)⟩
 | panic ch=>exact⟨_,a₁,w₁,hq,.of_steps (.one h0 stepR_seq) (.pass (x := .code y) rfl (λ_ _ => .inl (by simp)) dP)⟩
 | outgrown=>exact⟨_,a₁,w₁,hq,.of_steps (.one h0 stepR_seq) (.pass (x := .code y) rfl (λ_ _ => .inl (by simp)) dP)⟩
theorem NM {c:Operand} {x y:Code} {t:Bool} (hc:a.eval c = .bool t) (h:wpN r fid P (if t then x else y) Q a w):wpN r fid P (.cond c x y) Q a w:=
 λb k cs eu hb=>let ⟨e,a',w',q,r⟩:=h b k cs eu hb; ⟨e,a',w',q,.of_steps (.one (By _) (stepR_cond hc)) r⟩
theorem c3r {id:Nat} {c:Code} (h:wpN r fid P c (Exit.inBlock id Q) a w):wpN r fid P (.block id c) Q a w:=by
 intro b k cs eu hb
 have h0:(lone (b.atR a (.code (.block id c)::k)) cs w).fenced P (W r):=By _
 obtain⟨e,a₁,w₁,hq,dP⟩:=h b (.inBlock id::k) cs eu hb
 cases e with
 | normal=>exact⟨.normal,a₁,w₁,hq,.head h0 stepR_block (StepsIn.trans dP (.one (By _) stepR_inBlock))⟩
 | exit id' =>
   by_cases iX:id'=id
   ·simp only[Exit.inBlock,iX,if_true] at hq
    exact⟨.normal,a₁,w₁,hq,.head h0 stepR_block (dP.1 k (by simp[exitTo,iX]))⟩
   ·simp only[Exit.inBlock,iX,if_false] at hq
    have this:(id==id')=false:=by simp; exact λh=>iX h.symm
    have hx:exitTo id' (.inBlock id::k)=exitTo id' k:=by simp[exitTo,this]
    exact⟨.exit id',a₁,w₁,hq,λk' hk => .head h0 stepR_block (dP.1 k' (by rw[hx]; exact hk)),
     λgc hk=>let ⟨k₁,h1,h2⟩:=dP.2 gc (by rw[hx]; exact hk); ⟨k₁,h1,.head h0 stepR_block h2⟩⟩
 | goto l =>
   have hx:gotoIn l (.inBlock id::k)=gotoIn l k:=by simp[gotoIn]
   exact⟨_,a₁,w₁,hq,λk' hk => .head h0 stepR_block (dP.1 k' (by rw[hx]; exact hk)),
    λgc hk=>let ⟨k₁,h1,h2⟩:=dP.2 gc (by rw[hx]; exact hk); ⟨k₁,h1,.head h0 stepR_block h2⟩⟩
 | ret=>exact⟨_,a₁,w₁,hq,.of_steps (.one h0 stepR_block) dP⟩
 | panic ch=>exact⟨_,a₁,w₁,hq,.of_steps (.one h0 stepR_block) dP⟩
 | outgrown=>exact⟨_,a₁,w₁,hq,.of_steps (.one h0 stepR_block) dP⟩
def Gr (r:Option Nat) (fid:FuncId) (P:Program) (c:Code) (Q:Exit→Act→World→Prop):Nat→Act→World→Prop
 | 0,_,_=>False
 | m+1,a,w=>wpN r fid P c (Exit.then (Gr r fid P c Q m) Q) a w
theorem b8b {c:Code} {m:Nat}:Gr r fid P c Q (m+1) a w=wpN r fid P c (Exit.then (Gr r fid P c Q m) Q) a w:=rfl
theorem b4i {c:Code} (m:Nat) (h:Gr r fid P c Q m a w):wpN r fid P (.loop c) Q a w:=by
 intro b k cs eu hb
 have key:∀m a w,Gr r fid P c Q m a w →
   ∃e a' w',Q e a' w'∧ArrivesIn (Machine.fenced P (W r)) P (lone (b.atR a (.code c :: .inLoop c::k)) cs w) b k cs e a' w':=by
  intro m
  induction m with
  | zero=>intro a w h; exact h.elim
  | succ m ih =>
    intro a w h
    obtain⟨e,a₁,w₁,hq,dP⟩:=h b (.inLoop c::k) cs eu hb
    cases e with
    | normal =>
      obtain⟨e₂,a₂,w₂,hq₂,harr₂⟩:=ih a₁ w₁ hq
      exact⟨e₂,a₂,w₂,hq₂,.of_steps (StepsIn.trans dP (.one (By _) stepR_inLoop)) harr₂⟩
    | exit id=>exact⟨_,a₁,w₁,hq,.pass (x := .inLoop c) rfl (λ_ _ => .inl (by simp)) dP⟩
    | goto l=>exact⟨_,a₁,w₁,hq,.pass (x := .inLoop c) rfl (λ_ _ => .inl (by simp)) dP⟩
    | ret=>exact⟨_,a₁,w₁,hq,.pass (x := .inLoop c) rfl (λ_ _ => .inl (by simp)) dP⟩
    | panic ch=>exact⟨_,a₁,w₁,hq,.pass (x := .inLoop c) rfl (λ_ _ => .inl (by simp)) dP⟩
    | outgrown=>exact⟨_,a₁,w₁,hq,.pass (x := .inLoop c) rfl (λ_ _ => .inl (by simp)) dP⟩
 obtain⟨e,a',w',hq,dP⟩:=key m a w h
 exact⟨e,a',w',hq,.of_steps (.one (By _) stepR_loop) dP⟩
theorem SH {g:Operand} {ps:Array Tmp} {assign body:Code} {l:Nat} {mark:List Deferred} {w₁:World} {d:Deferred} {f:FuncId} {args:Array Value}
  (he:(Instr.enterLoop fid a.tmps ps assign body none).run P w = .ok (l,mark) w₁) (dZ:(resolve a.eval (rangeCall g l) 0).run P w₁ = .ok d w₁) (kz:(invoke d.target d.args).run P w₁ = .ok (.enter f args) w₁)
  (hc:Calls P f args w₁ fun
   | .returned _, w₃ => ∃ j w₄, (Instr.endLoop l).run P w₃ = .ok j w₄ ∧ (match j with
     | none=>Q .normal { a with defers:=mark++a.defers } w₄
     | some c=>wpN none fid P c Q { a with defers:=mark++a.defers } w₄)
   | .panicked chain,w₃=>Q (.panic chain) { a with defers:=mark++a.defers } w₃
   | .outgrown,_=>LetsOut Q):wpN none fid P (.rangeFunc g ps assign body) Q a w:=by
 intro b k cs eu hb
 subst hb
 rw[← eu] at he
 have fg:=stepR_rangeFunc (P:=P) (b:=b) (a:=a) (k:=k) (cs:=cs) (w:=w) he dZ kz
 obtain⟨e,w₃,fr,hR,jS,eH,lY⟩:=(Ke (r:=none) (n:=0) hc).2 (b.atR { a with defers:=mark++a.defers } (.inRangeFunc l::k)::cs) (Ix _)
 cases e with
 | outgrown =>
   obtain⟨a₀,w₀,hq⟩:=hR
   exact⟨.outgrown,a₀,w₀,hq,.inr (Outgrown.of_steps (.one fg) jS)⟩
 | returned v =>
   obtain⟨j,w₄,fT,hj⟩:=hR
   have sback:StepsIn (Machine.fenced P (W none)) P (lone (b.atR a (.code (.rangeFunc g ps assign body)::k)) cs w) (lone (b.atR { a with defers:=mark++a.defers } ((j.map Item.code).toList++k)) cs w₄):=by
    refine .head (By _) fg (StepsIn.trans jS (.head (By _) ?_ (.one (By _) (stepR_endRangeFunc (b:=b) (a:={ a with defers:=mark++a.defers }) (k:=k) fT))))
    rw[← finish_atR_inRangeFunc l v]; exact step_leave_returned lY
   cases j with
   | none=>exact⟨.normal,_,w₄,hj,sback⟩
   | some c =>
     obtain⟨e₂,a₂,w₅,hq,hr⟩:=hj b k cs eu rfl
     exact⟨e₂,a₂,w₅,hq,.of_steps sback hr⟩
 | panicked chain =>
   refine⟨.panic chain,_,w₃,hR,.inRangeFunc l::k,.head (By _) fg (StepsIn.trans jS (.one (By _) ?_))⟩
   rw[← Frame.raise_atR]; exact step_leave_panicked lY
def SU (P:Program) (fn:Func) (R:Ending→World→Prop):Exit→Act→World→Prop
 | .normal,a,w | .ret,a,w=>LeavesInM (W none) 0 P fn a.tmps R a.defers .returning w
 | .panic chain,a,w=>LeavesInM (W none) 0 P fn a.tmps R a.defers (.panicking chain) w
 | _,_,_=>False
theorem SV {f:FuncId} {fn:Func} {c:Code} {args:Array Value} {R:Ending→World→Prop} (hf:P.funcs[f]? = some fn) (hb:fn.body=some c)
  (h:wpN none f P c (SU P fn R) { tmps:=args++Array.replicate (fn.ntmps - args.size) undef,defers:=[] } w):Calls P f args w R:=by
 refine c0X (r:=none) (n:=0) ⟨trivial,λcs hr =>?_⟩
 let b:Frame:={ (default:Frame) with fn:=f,kind := .normal,roundOf:=none }
 have fg:Frame.enter P f args .normal=b.atR { tmps:=args++Array.replicate (fn.ntmps - args.size) undef,defers:=[] } [.code c]:=by
  simp[Frame.enter,Frame.atR,hf,hb,b]
 obtain⟨e,a',w',hq,dP⟩:=h b [] cs rfl rfl
 rw[← fg] at dP
 cases e with
 | normal =>
   obtain⟨e',w'',fr',hR,hs,eH,hl⟩:=leaves_stepsInM a'.defers .returning w' { b.atR a' [] with mode := .returning } cs rfl rfl rfl hf rfl trivial (Ix _) hq
   exact⟨e',w'',fr',hR,ComesIn.of_steps (StepsIn.trans dP (.one (By _) (stepR_end rfl))) hs,eH,hl⟩
 | ret =>
   obtain⟨todo,hs₀⟩:=dP.1 rfl
   obtain⟨e',w'',fr',hR,hs,eH,hl⟩:=leaves_stepsInM a'.defers .returning w' { b.atR a' todo with mode := .returning } cs rfl rfl rfl hf rfl trivial (Ix _) hq
   exact⟨e',w'',fr',hR,ComesIn.of_steps hs₀ hs,eH,hl⟩
 | panic chain =>
   obtain⟨todo,hs₀⟩:=dP
   obtain⟨e',w'',fr',hR,hs,eH,hl⟩:=leaves_stepsInM a'.defers (.panicking chain) w' { b.atR a' todo with mode := .panicking chain } cs rfl rfl rfl hf rfl trivial (Ix _) hq
   exact⟨e',w'',fr',hR,ComesIn.of_steps hs₀ hs,eH,hl⟩
 | exit id=>exact hq.elim
 | goto l=>exact hq.elim
 | outgrown=>exact hq.elim
theorem d2o {l:Nat} {f:FuncId} {fn:Func} {tmps:Array Value} {assign body:Code} {R:Ending→World→Prop} (eH:P.funcs[f]? = some fn)
  (h:wpN (some l) f P assign (Exit.then (λa₁ w₁=>∃w₂,(Instr.beginRound l).run P w₁ = .ok () w₂∧wpN (some l) f P body (N4 P l R) a₁ w₂) (λ_ _ _=>False)) { tmps:=tmps,defers:=[] } w):
  RoundIn (W r) n P l f tmps assign body w R:=by
 refine⟨Cq _,λc cs hr =>?_⟩
 let b:Frame:={ (default:Frame) with fn:=f,kind := .normal,roundOf:=some l }
 have jB:Frame.round l f tmps assign body .normal=b.atR { tmps:=tmps,defers:=[] } [.code assign,.beginRound,.code body]:=by
  simp[Frame.round,Frame.atR,b]
 obtain⟨e,a₁,w₁,hq,dP⟩:=h b [.beginRound,.code body] (c::cs) rfl rfl
 rw[← jB] at dP
 cases e with
 | normal =>
   obtain⟨w₂,fM,gL⟩:=hq
   have s1:StepsIn (Machine.fenced P (W (some l))) P (lone (b.atR a₁ [.beginRound,.code body]) (c::cs) w₁) (lone (b.atR a₁ [.code body]) (c::cs) w₂):=
    .one (By _) (stepR_beginRound rfl fM)
   obtain⟨e₂,a₂,w₃,hq₂,harr₂⟩:=gL b [] (c::cs) rfl rfl
   cases e₂ with
   | normal =>
     obtain⟨v,w₄,fT,hR⟩:=hq₂
     exact⟨.returned v,w₄,hR,(StepsIn.trans dP s1).trans (StepsIn.trans harr₂ (.one (By _) (stepR_round_end rfl rfl fT)))⟩
   | panic chain =>
     obtain⟨hd,hR⟩:=hq₂
     obtain⟨todo,hs⟩:=harr₂
     refine⟨.panicked chain,w₃,hR,(StepsIn.trans dP s1).trans (StepsIn.trans hs (.one (By _) (b2r (fn:=fn) rfl ?_ eH)))⟩
     exact hd
   | ret =>
     obtain⟨v,w₄,fT,hR⟩:=hq₂
     obtain⟨k₁,hs⟩:=harr₂.2 rfl
     exact⟨.returned v,w₄,hR,(StepsIn.trans dP s1).trans (StepsIn.trans hs (.one (By _) (stepR_round_ret rfl rfl fT)))⟩
   | exit id =>
     obtain⟨v,w₄,fT,hR⟩:=hq₂
     obtain⟨k₁,hk,hs⟩:=harr₂.2 rfl rfl
     exact⟨.returned v,w₄,hR,(StepsIn.trans dP s1).trans (StepsIn.trans hs (.one (By _) (stepR_round_exit rfl rfl hk fT)))⟩
   | goto t=>exact hq₂.elim
   | outgrown=>exact hq₂.elim
 | exit id=>exact hq.elim
 | goto t=>exact hq.elim
 | ret=>exact hq.elim
 | panic chain=>exact hq.elim
 | outgrown=>exact hq.elim
end
end PI
set_option linter.unusedSimpArgs false
set_option linter.unusedVariables false
namespace PI
open Go Go.RowKit
section
variable {E:Env} {N:Nm} {w:World} {G:GS} {st:St} {a:Act} {vs:List Tmp} {lm:Nat→Option Tmp} {P:Program}
theorem SI (hf:FI N w G st a vs lm) {n b:Nat} {ob':PObj} {mob:Obj} (hb:G.heap n=some b) (how:G.ow b=some (.hobj n))
  (r8:∀o,¬G.fix b o) (ju:w.shape? b=none) (mX:∀s,Bd w b=some s→Bd { w with heap:=w.heap.setIfInBounds b mob } b=some s)
  (hR:ob' = .gone∨ObjR N { w with heap:=w.heap.setIfInBounds b mob } G n b ob'):
  Ext w G { w with heap:=w.heap.setIfInBounds b mob } G∧FI N { w with heap:=w.heap.setIfInBounds b mob } G (yH st n ob') a vs lm:=by
 let w':World:={ w with heap:=w.heap.setIfInBounds b mob }
 have fK:b<w.heap.size:=hf.owlt _ _ how
 have du:∀x,x≠b→w'.heap[x]? = w.heap[x]? := λx hx=>by
  simp only[w',bi]; rw[ae (by omega)]
 have cX:Ext w G w' G:=by
  refine⟨rfl,rfl,rfl,by simp[w'],λx _ lL=>du x (by rintro rfl; rw[how] at lL; simp at lL),?_,λ_ _ h => .inl h,λ_ h => .inr h,λ_ _ h=>h,.one b (λk _ hk=>du k hk) (λs hx=>by rw[ju] at hx; simp at hx) mX,rfl⟩
  intro x o' gB
  have gR:x≠b:=by rintro rfl; exact r8 _ gB
  refine⟨gB,?_⟩
  simp only[World.cell?,du x gR]
 have db:zu (λk=>k = .hobj n) w G w' G:=by
  refine⟨?_,λ_ _ h=>h⟩
  intro x k hx iI
  have gR:x≠b:=by rintro rfl; rw[how] at hx; simp at hx; exact iI hx.symm
  exact⟨hx,du x gR,λ_ h=>h⟩
 have dD:FI N w' G (yH st n ob') a vs lm:=by
  refine⟨hf.len,λi t' u' h1 h2=>(hf.var i t' u' h1 h2).keep cX db (by simp) (by simp),λi t' u' h1 h2=>(hf.loc i t' u' h1 h2).keep cX db (by simp) (by simp),hf.tv,hf.tl,hf.defers,hf.gen,?_,?_,?_,?_⟩
  ·intro b' k dn; simpa[w'] using hf.owlt _ _ dn
  ·intro b' k dn; simpa[w'] using hf.fixlt _ _ dn
  ·exact hf.heap.keepBut cX db (λm k dh=>⟨by simp; omega,by simp⟩) (λ_=>hR.imp id λhR=>⟨b,hb,how,hR⟩)
  ·intro m b' h; have:=hf.hdom _ _ h; simpa[yH] using this
 exact⟨cX,dD⟩
theorem c7y (hf:FI N w G st a vs lm) {ob:PObj} {mob:Obj}
  (hR:∀G',G'=G.more w.heap.size st.heap.length→Ext w G (w.alloc mob) G'→ObjR N (w.alloc mob) G' st.heap.length w.heap.size ob):
  Ext w G (w.alloc mob) (G.more w.heap.size st.heap.length)∧FI N (w.alloc mob) (G.more w.heap.size st.heap.length) { st with heap:=st.heap++[ob] } a vs lm:=by
 let G':GS:=G.more w.heap.size st.heap.length
 have cX:Ext w G (w.alloc mob) G':=by
  refine⟨rfl,rfl,rfl,by simp,λb hb _=>AF hb,λb o h=>⟨h,E9 (hf.fixlt _ _ h)⟩,λ_ _ h => .inl h,?_,?_,.same λk hk=>AF hk,rfl⟩
  ·intro b hb
   by_cases dc:b<w.heap.size
   ·refine .inr ?_
    simp only[G',GS.more] at hb
    rw[ae (by omega)] at hb
    exact hb
   ·exact .inl (by omega)
  ·intro n b h
   have:=hf.hdom _ _ h
   simp only[G',GS.more]
   rw[ae (by omega)]; exact h
 have db:zu (λ_=>False) w G (w.alloc mob) G':=by
  refine⟨?_,λ_ _ h=>h⟩
  intro b k hb _
  have dc:=hf.owlt _ _ hb
  refine⟨?_,AF dc,λ_ h=>h⟩
  simp only[G',GS.more]
  rw[ae (by omega)]; exact hb
 have dD:FI N (w.alloc mob) G' { st with heap:=st.heap++[ob] } a vs lm:=by
  refine⟨hf.len,λi t u h1 h2=>(hf.var i t u h1 h2).keep cX db (λh=>h) (λ_ _ _ h=>h),λj t u h1 h2=>(hf.loc j t u h1 h2).keep cX db (λh=>h) (λ_ _ _ h=>h),hf.tv,hf.tl,hf.defers,hf.gen,?_,?_,?_,?_⟩
  ·intro b k hb
   simp only[G',GS.more] at hb
   split at hb
   ·simp; omega
   ·have:=hf.owlt _ _ hb; simp; omega
  ·intro b o h; have:=hf.fixlt _ _ h; simp; omega
  ·exact hf.heap.push cX db (λ_ _ _ => .inr ⟨λh=>h,λh=>h⟩) (.inr ⟨w.heap.size,by simp[G',GS.more],by simp[G',GS.more],hR G' rfl cX⟩)
  ·intro n b h
   simp only[G',GS.more] at h
   simp only[ao,cR]
   split at h
   ·omega
   ·have:=hf.hdom _ _ h; omega
 exact⟨cX,dD⟩
theorem c2G (hf:FI N w G st a vs lm) (mob:Obj):Ext w G (w.alloc mob) G∧FI N (w.alloc mob) G st a vs lm:=by
 have cX:Ext w G (w.alloc mob) G:=
  ⟨rfl,rfl,rfl,by simp,λb hb _=>AF hb,λb o h=>⟨h,E9 (hf.fixlt _ _ h)⟩,λ_ _ h => .inl h,λ_ h => .inr h,λ_ _ h=>h,.same λk hk=>AF hk,rfl⟩
 have db:zu (λ_=>False) w G (w.alloc mob) G:=⟨λb k hb _=>⟨hb,AF (hf.owlt _ _ hb),λ_ h=>h⟩,λ_ _ h=>h⟩
 exact⟨cX,hf.ext cX db hf.gen (λb k h=>by have:=hf.owlt _ _ h; simp; omega) (λb o h=>by have:=hf.fixlt _ _ h; simp; omega)⟩
theorem FI.setDf (hf:FI N w G st a vs lm) (ds:List Deferred):FI N w { G with df:=ds } st { a with defers:=ds } vs lm:=
 ⟨hf.len,hf.var,hf.loc,hf.tv,hf.tl,rfl,hf.gen,hf.owlt,hf.fixlt,hf.heap,hf.hdom⟩
theorem Ext.setDf {w':World} {G':GS} (h:Ext w G w' G') (ds:List Deferred):Ext w { G with df:=ds } w' { G' with df:=ds }:=
 ⟨h.os,h.tape,h.output,h.size,h.same,h.fix,h.newfix,h.own,h.heap,h.shape,rfl⟩
def ExtD (w:World) (G:GS) (w':World) (G':GS):Prop:=Ext w { G with df:=G'.df } w' G'
theorem ExtD.of {w':World} {G':GS} (h:Ext w G w' G'):ExtD w G w' G':=by
 have:=h.setDf G'.df
 exact this
theorem ExtD.refl (w:World) (G:GS):ExtD w G w G := .of (Ext.refl w G)
theorem ExtD.trans {w1 w2:World} {G1 G2:GS} (h:ExtD w G w1 G1) (k:ExtD w1 G1 w2 G2):ExtD w G w2 G2:=by
 have h1:=Ext.setDf h G2.df
 exact Ext.trans h1 k
theorem ExtD.to {w':World} {G':GS} (h:ExtD w G w' G') (hd:G'.df=G.df):Ext w G w' G':=by
 unfold ExtD at h
 rw[hd] at h
 exact h
def Marks (w w':World) (G':GS) (ms:List Deferred):Prop:=
 ∃bs:List Nat,ms=bs.map (λb=>{ target := .collected b,args := #[] })∧bs.Nodup∧∀b∈bs,w.heap.size≤b∧w'.heap[b]? = some (.deferred (some []))∧G'.ow b=none
theorem Marks.nil (w w':World) (G':GS):Marks w w' G' []:=⟨[],rfl,List.nodup_nil,by simp⟩
theorem Marks.lt {w':World} {G':GS} {b:Nat} (h:w'.heap[b]? = some (.deferred (some []))):b<w'.heap.size:=(aX.1 h).1
theorem Marks.join {w1 w2:World} {G1 G2:GS} {ms1 ms2:List Deferred} (hs:w.heap.size≤w1.heap.size) (h1:Marks w w1 G1 ms1) (e:ExtD w1 G1 w2 G2) (h2:Marks w1 w2 G2 ms2):Marks w w2 G2 (ms2++ms1):=by
 obtain⟨b1,rfl,n1,k1⟩:=h1
 obtain⟨b2,rfl,n2,k2⟩:=h2
 refine⟨b2++b1,by simp,?_,?_⟩
 ·rw[cd]
  refine⟨n2,n1,?_⟩
  rintro x hx y hy rfl
  have:=(k2 x hx).1
  have:=Marks.lt (G':=G1) (k1 x hy).2.1
  omega
 ·intro b hb
  rcases aw.1 hb with hb|hb
  ·obtain⟨j1,j2,j3⟩:=k2 b hb
   exact⟨by omega,j2,j3⟩
  ·obtain⟨j1,j2,j3⟩:=k1 b hb
   have dc:=Marks.lt (G':=G1) j2
   refine⟨j1,(Ext.same e b dc j3).trans j2,?_⟩
   cases hx:G2.ow b with
   | none=>rfl
   | some k =>
     rcases Ext.own e b (by rw[hx]; simp) with h|h
     ·omega
     ·exact absurd j3 h
end
def Ik (nt:Nat) (ops:List Oper):Bool:=ops.all λo=>match o.dst with | some t=>decide (t<nt) | none=>true
def J1 (ops:List Oper):Bool:=ops.all λo=>match o.op with | .defer _=>false | _=>true
def DB (E:Env) (nt:Nat) (vs:List Tmp) (ops:Array Oper) (draw:Bool):Option (List PO):=
 if E1 vs ops.toList&&Ik nt ops.toList&&J1 ops.toList then
  (Ez E vs ops.toList ops.toList).bind λpos=>if draw && !E2 ops pos then none else some pos
 else none
def E3 (E:Env) (nt:Nat) (vs:List Tmp) (ops:Array Oper) (draw:Bool):Option (List PO):=
 if E1 vs ops.toList&&Ik nt ops.toList&&J1 ops.toList then
  (Il E vs ops.toList ops.toList).bind λpos=>if draw && !E2 ops pos then none else some pos
 else none
def Im (E:Env) (nt:Nat) (vs:List Tmp) (ops:Array Oper):Option (List PO×Nat×PX):=
 if E1 vs ops.toList&&Ik nt ops.toList&&J1 ops.toList then
  match ops.toList.drop (ops.size - 2) with
  | [{ dst := some d, op := .makeInterface T x, guard := none, .. }, { op := .panic (.tmp d'), guard := none, .. }] =>
    match E.P.underlying T with
    | none | some (.interface _)=>none
    | some _=>if d=d'∧(zQ d vs 0).isNone∧2≤ops.size then(Ez E vs ops.toList (ops.toList.take (ops.size - 2))).bind λpos=>(cx E vs ops.toList x).bind λpx=>(zQ T E.pt 0).map λi=>(pos,i+1,px) else none
  | _=>none
 else none
def ND (E:Env) (nt:Nat) (vs:List Tmp) (ops:Array Oper):Option (Nat×List PX):=
 match ops.toList with
 | [{ dst := some d, op := .makeFunc (.func f) first caps, guard := none, .. }, { dst := none, op := .defer { callee := .value (.tmp d'), args, .. }, guard := none, .. }] =>
   if d=d'∧(zQ d vs 0).isNone∧d<nt∧first.toList=[]∧args.toList=[] then(E.inv f).bind λk=>(cxs E vs [] caps.toList).map λps=>(k,ps) else none
 | _=>none
inductive Cmp (E:Env) (nt:Nat) (vs:List Tmp):Code→PC→Prop where
 | skip:Cmp E nt vs .skip .skip
 | region (id:Nat) (ops:Array Oper) (d:Bool) (pos:List PO) (h:DB E nt vs ops d=some pos):Cmp E nt vs (.region id ops d) (.region pos)
 | bregion (id:Nat) (ops:Array Oper) (d:Bool) (pos:List PO) (h:E3 E nt vs ops d=some pos):Cmp E nt vs (.region id ops d) (.bregion pos)
 | raise (id:Nat) (ops:Array Oper) (pos:List PO) (t:Nat) (px:PX) (h:Im E nt vs ops=some (pos,t,px)):Cmp E nt vs (.region id ops false) (.raise pos t px)
 | branch (id : Nat) (ops : Array Oper) (d : Bool) (pos : List PO) (c : Operand) (px : PX) (x y : Code) (px1 px2 : PC) (h : DB E nt vs ops d = some pos) (hc : cx E vs ops.toList c = some px) (hx : Cmp E nt vs x px1) (hy : Cmp E nt vs y px2) :
   Cmp E nt vs (.seq (.region id ops d) (.cond c x y)) (.branch pos px px1 px2)
 | branchSeq (id : Nat) (ops : Array Oper) (d : Bool) (pos : List PO) (c : Operand) (px : PX) (x y r : Code) (px1 px2 pr : PC) (h : DB E nt vs ops d = some pos) (hc : cx E vs ops.toList c = some px) (hx : Cmp E nt vs x px1) (hy : Cmp E nt vs y px2) (hr : Cmp E nt vs r pr) :
   Cmp E nt vs (.seq (.region id ops d) (.seq (.cond c x y) r)) (.seq (.branch pos px px1 px2) pr)
 | bbranch (id : Nat) (ops : Array Oper) (d : Bool) (pos : List PO) (c : Operand) (px : PX) (x y : Code) (px1 px2 : PC) (h : E3 E nt vs ops d = some pos) (hc : cx E vs ops.toList c = some px) (hx : Cmp E nt vs x px1) (hy : Cmp E nt vs y px2) :
   Cmp E nt vs (.seq (.region id ops d) (.cond c x y)) (.bbranch pos px px1 px2)
 | bbranchSeq (id : Nat) (ops : Array Oper) (d : Bool) (pos : List PO) (c : Operand) (px : PX) (x y r : Code) (px1 px2 pr : PC) (h : E3 E nt vs ops d = some pos) (hc : cx E vs ops.toList c = some px) (hx : Cmp E nt vs x px1) (hy : Cmp E nt vs y px2) (hr : Cmp E nt vs r pr) :
   Cmp E nt vs (.seq (.region id ops d) (.seq (.cond c x y) r)) (.seq (.bbranch pos px px1 px2) pr)
 | guarded (id:Nat) (ops:Array Oper) (kd:Nat) (caps:List PX) (y:Code) (q:PC) (h:ND E nt vs ops=some (kd,caps)) (hy:Cmp E nt vs y q):Cmp E nt vs (.seq (.region id ops false) y) (.guarded kd caps q)
 | seq (x y:Code) (p q:PC) (hx:Cmp E nt vs x p) (hy:Cmp E nt vs y q):Cmp E nt vs (.seq x y) (.seq p q)
 | cond (c:Operand) (px:PX) (x y:Code) (p q:PC) (hc:cx E vs [] c=some px) (hx:Cmp E nt vs x p) (hy:Cmp E nt vs y q):Cmp E nt vs (.cond c x y) (.branch [] px p q)
 | block (id:Nat) (x:Code) (p:PC) (hx:Cmp E nt vs x p):Cmp E nt vs (.block id x) (.block id p)
 | loop (x:Code) (p:PC) (hx:Cmp E nt vs x p):Cmp E nt vs (.loop x) (.loop p)
 | rangeF (g : Operand) (ps : Array Tmp) (as body : Code) (px : PX) (kb : Nat) (vars : List Tmp) (caps : List PX) (hg : cx E vs [] g = some px) (hl : (ps, kb, vars) ∈ E.lps) (hv : cxs E vs [] (vars.map .tmp) = some caps) :
   Cmp E nt vs (.rangeFunc g ps as body) (.rangeF px kb caps)
 | stuck (x:Code):Cmp E nt vs x Cp
 | exit (id:Nat):Cmp E nt vs (.exit id) (.exit id)
 | ret:Cmp E nt vs .ret .ret
def J2 (E:Env) (nt:Nat) (vs:List Tmp) (ops:Array Oper) (d:Bool):PC:=
 if Sw E ops.toList then(match E3 E nt vs ops d with | some pos => .bregion pos | none=>Cp)
 else match DB E nt vs ops d with
  | some pos=>if d then .region pos else(match Im E nt vs ops with | some r => .raise r.1 r.2.1 r.2.2 | none => .region pos)
  | none=>if d then Cp else(match Im E nt vs ops with | some r => .raise r.1 r.2.1 r.2.2 | none=>Cp)
def brC (E:Env) (nt:Nat) (vs:List Tmp) (ops:Array Oper) (d:Bool) (c:Operand) (p q:PC):PC:=
 if Sw E ops.toList then(match E3 E nt vs ops d,cx E vs ops.toList c with | some pos,some px => .bbranch pos px p q | _,_=>Cp)
 else match DB E nt vs ops d,cx E vs ops.toList c with
  | some pos,some px => .branch pos px p q
  | _,_=>Cp
theorem Sx {E:Env} {nt:Nat} {vs:List Tmp} (id:Nat) (ops:Array Oper) (d:Bool):Cmp E nt vs (.region id ops d) (J2 E nt vs ops d):=by
 unfold J2
 split
 ·split
  ·exact .bregion id ops d _ (by assumption)
  ·exact .stuck _
 ·split
  ·split
   ·exact .region id ops d _ (by assumption)
   ·rename_i hd
    have:d=false:=by simpa using hd
    subst this
    split
    ·exact .raise id ops _ _ _ (by assumption)
    ·exact .region id ops false _ (by assumption)
  ·split
   ·exact .stuck _
   ·rename_i hd
    have:d=false:=by simpa using hd
    subst this
    split
    ·exact .raise id ops _ _ _ (by assumption)
    ·exact .stuck _
theorem c7p {E:Env} {nt:Nat} {vs:List Tmp} (id:Nat) (ops:Array Oper) (d:Bool) (c:Operand) {x y:Code} {p q:PC} (hx:Cmp E nt vs x p) (hy:Cmp E nt vs y q):Cmp E nt vs (.seq (.region id ops d) (.cond c x y)) (brC E nt vs ops d c p q):=by
 unfold brC
 split
 ·split
  ·exact .bbranch id ops d _ c _ x y p q (by assumption) (by assumption) hx hy
  ·exact .stuck _
 ·split
  ·exact .branch id ops d _ c _ x y p q (by assumption) (by assumption) hx hy
  ·exact .stuck _
def J3:PC→Bool
 | .branch [] (.c .dead) .skip .skip=>true
 | _=>false
theorem c7q {E:Env} {nt:Nat} {vs:List Tmp} (id:Nat) (ops:Array Oper) (d:Bool) (c:Operand) {x y r:Code} {p q pr:PC} (hx:Cmp E nt vs x p) (hy:Cmp E nt vs y q) (hr:Cmp E nt vs r pr):
  Cmp E nt vs (.seq (.region id ops d) (.seq (.cond c x y) r)) (if J3 (brC E nt vs ops d c p q) then Cp else .seq (brC E nt vs ops d c p q) pr):=by
 split
 ·exact .stuck _
 ·rename_i hs
  unfold brC at hs ⊢
  split
  ·rename_i hb
   rw[af hb] at hs
   split
   ·exact .bbranchSeq id ops d _ c _ x y r p q pr (by assumption) (by assumption) hx hy hr
   ·rename_i h1
    split at hs
    ·rename_i a b h2 h3; exact absurd rfl (λe:(0:Nat)=0=>h1 _ _ h2 h3)
    ·simp[J3,Cp] at hs
  ·rename_i hb
   rw[ae hb] at hs
   split
   ·exact .branchSeq id ops d _ c _ x y r p q pr (by assumption) (by assumption) hx hy hr
   ·rename_i h1
    split at hs
    ·rename_i a b h2 h3; exact absurd rfl (λe:(0:Nat)=0=>h1 _ _ h2 h3)
    ·simp[J3,Cp] at hs
def Ak (E:Env) (nt:Nat) (vs:List Tmp):Code→PC
 | .skip => .skip
 | .region _ ops d=>J2 E nt vs ops d
 | .seq (.region _ ops d) (.cond c x y)=>brC E nt vs ops d c (Ak E nt vs x) (Ak E nt vs y)
 | .seq (.region _ ops d) (.seq (.cond c x y) r)=>if J3 (brC E nt vs ops d c (Ak E nt vs x) (Ak E nt vs y)) then Cp else .seq (brC E nt vs ops d c (Ak E nt vs x) (Ak E nt vs y)) (Ak E nt vs r)
 | .seq (.region _ ops false) y => match ND E nt vs ops with
   | some r => .guarded r.1 r.2 (Ak E nt vs y)
   | none => .seq (J2 E nt vs ops false) (Ak E nt vs y)
 | .seq x y => .seq (Ak E nt vs x) (Ak E nt vs y)
 | .cond c x y => match cx E vs [] c with
   | some px => .branch [] px (Ak E nt vs x) (Ak E nt vs y)
   | none=>Cp
 | .block id x => .block id (Ak E nt vs x)
 | .loop x => .loop (Ak E nt vs x)
 | .rangeFunc g ps _ _ => match cx E vs [] g, E.lps.find? (fun y => y.1 == ps) with
   | some px, some y => match cxs E vs [] (y.2.2.map .tmp) with
     | some caps => .rangeF px y.2.1 caps
     | none=>Cp
   | _,_=>Cp
 | .exit id => .exit id
 | .ret => .ret
 | _=>Cp
theorem Io {E:Env} {nt:Nat} {vs:List Tmp}:∀{c:Code},Cmp E nt vs c (Ak E nt vs c):=by
 intro c
 fun_induction Ak E nt vs c with
 | case1=>exact .skip
 | case2 id ops d=>exact Sx id ops d
 | case3 id ops d c x y ihx ihy=>exact c7p id ops d c ihx ihy
 | case4=>exact .stuck _
 | case5 id ops d c x y r h ihx ihy ihr =>
   have:=c7q id ops d c ihx ihy ihr
   rw[ae h] at this
   exact this
 | case6 id ops y _ _ r h ihy=>exact .guarded id ops _ _ y _ h ihy
 | case7 id ops y _ _ h ihy=>exact .seq _ y _ _ (Sx id ops false) ihy
 | case8 x y _ _ _ ihx ihy=>exact .seq x y _ _ ihx ihy
 | case9 c x y px h ihx ihy=>exact .cond c px x y _ _ h ihx ihy
 | case10=>exact .stuck _
 | case11 id x ih=>exact .block id x _ ih
 | case12 x ih=>exact .loop x _ ih
 | case13 g ps a b px y e1 e2 caps e3 =>
   have h2:E.lps.find? (λy=>y.1==ps)=some y:=by assumption
   have hm:=List.mem_of_find?_eq_some h2
   have he:=List.find?_some h2
   obtain⟨y1,y2,y3⟩:=y
   have dN:y1=ps:=by simpa using he
   subst dN
   exact .rangeF g y1 a b px y2 y3 caps (by assumption) hm (by assumption)
 | case14=>exact .stuck _
 | case15=>exact .stuck _
 | case16 id=>exact .exit id
 | case17=>exact .ret
 | case18=>exact .stuck _
structure BI (N:Nm) (w:World) (G:GS) (st:St) (a:Act) (vs:List Tmp) (nt:Nat):Prop where
 fi:FI N w G st a vs (λ_=>none)
 size:nt≤a.tmps.size
theorem Ip (w:World) (G:GS):Ext w G w.drew G:=
 ⟨rfl,rfl,rfl,am _,λ_ _ _=>rfl,λ_ _ h=>⟨h,rfl⟩,λ_ _ h => .inl h,λ_ h => .inr h,λ_ _ h=>h,ShapeLe.refl w,rfl⟩
theorem Sy (w:World) (G:GS):zu (λ_=>False) w G w.drew G:=⟨λ_ _ h _=>⟨h,rfl,λ_ h=>h⟩,λ_ _ h=>h⟩
section
variable {E:Env} {N:Nm} {vs:List Tmp} {P:Program} {nt:Nat} {Q:Exit→Act→World→Prop}
theorem FI.begin {w:World} {G:GS} {st:St} {a:Act} (h:BI N w G st a vs nt) (lm:Nat→Option Tmp) (hl:∀j t,lm j=some t→t<nt) (n:Nat):FI N w G (CK n st) a vs lm:=by
 refine⟨h.fi.len,h.fi.var,?_,h.fi.tv,λj t hj=>aP (hl j t hj) h.size,h.fi.defers,h.fi.gen,h.fi.owlt,h.fi.fixlt,h.fi.heap,h.fi.hdom⟩
 intro j t u _ hu
 simp only[CK,cB] at hu
 split at hu
 ·simp at hu; subst hu; trivial
 ·simp at hu
theorem FI.finish {w:World} {G:GS} {st:St} {a:Act} {lm:Nat→Option Tmp} (h:FI N w G st a vs lm) (hs:nt≤a.tmps.size):BI N w G (zy st) a vs nt:=
 ⟨⟨h.len,h.var,(by intro j t u hj; simp at hj),h.tv,(by intro j t hj; simp at hj),h.defers,h.gen,h.owlt,h.fixlt,h.heap,h.hdom⟩,hs⟩
theorem J4 {ops:List Oper} (h:Ik nt ops=true):∀j t,yk vs ops j=some t→t<nt:=by
 intro j t hj
 unfold yk at hj
 split at hj
 ·rename_i o ho
  split at hj
  ·rename_i t' mL
   split at hj
   ·simp at hj
   ·simp at hj; subst hj
    have:=aN.1 h o (ax ho)
    simpa[mL] using this
  ·simp at hj
 ·simp at hj
theorem NE {ops:Array Oper} (h:J1 ops.toList=true):∀(i:Nat) (o:Oper) c,ops[i]? = some o→o.op≠.defer c:=by
 intro i o c ho e
 have:=aN.1 h o (ax (by simpa using ho))
 rw[e] at this
 simp at this
theorem J5 (n:Nat):zR n (Array.replicate n false)=List.range' 0 n:=by
 rw[← cP]
 unfold zR
 rw[List.filter_eq_self]
 intro i hi
 have:i<n:=by simpa using hi
 simp[aV,this]
theorem Sz (ops:Array Oper):J6 ops (Array.replicate ops.size false):=by
 intro k o ho fe
 have:k<ops.size:=(aX.1 ho).1
 simp[aV,this] at fe
variable {L:Nat→Option PFunc} {r:Option Nat}
theorem SA (hF:Al N P L) (hE:EnvOk E N) (hP:E.P=P) (dR:P.follows .mixedOrders=true) (dx:vs.Nodup) {cf:yt} (dO:CallOK N P cf) (et:∀k args h r,cf k args h=some r→∃f,L k=some f)
  {id:Nat} {ops:Array Oper} {d:Bool} {pos:List PO} (hc:DB E nt vs ops d=some pos) {w:World} {G:GS} {st st':St} {a:Act} (hs:AG cf pos st=some st') (hb:BI N w G st a vs nt) (hQ:¬LetsOut Q)
  (hk:∀a' w' G',FI N w' G' st' a' vs (yk vs ops.toList)→Ext w G w' G'→nt≤a'.tmps.size→Q .normal a' w'):(Code.region id ops d).wpIn (W r) 0 P Q a w:=by
 unfold DB at hc
 split at hc
 ·rename_i de
  simp only[ap] at de
  simp only[aj] at hc
  obtain⟨pos',dB,hc⟩:=hc
  split at hc
  ·simp at hc
  ·rename_i fS
   simp at hc; subst hc
   have nm:=J7 dx de.1.1
   have cY:ops.size=pos'.length:=by have:=(E4 dB).1; simpa using this
   have gt:=FI.begin hb (yk vs ops.toList) (J4 de.1.2) pos'.length
   have hx:Am cf pos' (List.range' 0 pos'.length) (CK pos'.length st)=some st':=by
    rw[← J8 (all:=pos') (by simp)]; exact hs
   have dt:Next1 N w G a st' vs ops.toList (Q .normal):=λa' w' G' h1 h2 h3=>hk a' w' G' h1 h2 (by rw[h3]; exact hb.size)
   have dx:=NE de.2
   cases d with
   | false =>
     refine wpIn_region (NG dx hQ ?_)
     have:List.range ops.size=List.range' 0 pos'.length:=by rw[cY,cP]
     rw[this]
     exact NH hF hE hP nm dO et dB hx gt dt
   | true =>
     have lA:E2 ops pos'=true:=by simpa using fS
     refine wpIn_region_draw λt=>NG dx hQ ?_
     have lz:FI N w.drew G (CK pos'.length st) a vs (yk vs ops.toList):=gt.ext (Ip w G) (Sy w G) gt.gen gt.owlt gt.fixlt
     simp only[Region.schedule,dR,Bool.true_or,if_true]
     refine wpAny_sound ops.size t _ a _ ?_
     refine c2T hF hE hP nm dO et dB lA ops.size (by simp) (by rw[J5]; simp) (Sz ops) (by rw[J5,cY]; exact hx) lz (dt.trans (Ip w G) rfl)
 ·simp at hc
theorem NI (hF:Al N P L) (hE:EnvOk E N) (hP:E.P=P) {ops:Array Oper} (nm:Names vs (yk vs ops.toList)) {cf:yt} (dO:CallOK N P cf) {ob:Aa} (dU:Gp N P ob) (eu:Iq N P ob)
  (et:∀k args h x,cf k args h=some x→∃f,L k=some f) (jG:∀k args h x,ob k args h=some x→∃f,L k=some f) (hd:∀(i:Nat) (o:Oper) c,ops[i]? = some o→o.op≠.defer c) {pos:List PO} (dB:∀(i:Nat) (o:Oper),ops.toList[i]? = some o→∃p,pos[i]? = some p∧Ir E vs ops.toList o=some p) (cY:ops.size=pos.length)
  {res:Option PV} {st':St} (hQ:¬LetsOut Q):
  ∀ {l : List Nat} {st : St} {w : World} {G : GS} {a : Act}, Bx cf ob pos l st = some (res, st') → FI N w G st a vs (yk vs ops.toList) → (res = none → Next1 N w G a st' vs ops.toList (Q .normal)) →
    (∀p,res=some p→∀a' w' G' v,a'.tmps.size=a.tmps.size→VR N w' G'.fix G'.heap v p→Ext w G w' G'→FI N w' G' st' a' vs (yk vs ops.toList)→Q (.panic [{ v,recovered:=false }]) a' w')→wpOpsIn (W r) 0 P ops Q l a w
 | [], st, w, G, a, h, hf, hk, hb => by
   simp only[Bx,aa,ac] at h
   obtain⟨rfl,rfl⟩:=h
   exact hk rfl _ _ G hf (Ext.refl _ _) rfl
 | i :: l, st, w, G, a, h, hf, hk, hb => by
   simp only[Bx] at h
   split at h
   ·rename_i p hp
    have hi:i<ops.size:=by rw[cY]; exact(ah.1 hp).1
    obtain⟨p',fB,gb⟩:=dB i ops[i] (by simp[hi])
    have:p'=p:=by rw[hp] at fB; simpa using fB.symm
    subst this
    rw[wpOpsIn_cons]
    have rZ:ops[i]? = some ops[i]:=by simp[hi]
    split at h
    ·rename_i st1 hs
     refine SB (res:=none) hF hE hP nm rZ hf dO dU eu et jG (λc=>hd i _ c rZ) gb hs hQ ?_ (λp e=>by simp at e)
     intro _ a' w' G' iP he dj
     exact NI hF hE hP nm dO dU eu et jG hd dB cY hQ h iP (λhn=>(hk hn).trans he dj)
      (λp hp a2 w2 G2 v h1 h2 h3 h4=>hb p hp a2 w2 G2 v (h1.trans dj) h2 (he.trans h3) h4)
    ·rename_i dh
     have hs:Az cf ob i p' st=some (res,st'):=h
     cases res with
     | none=>exact absurd hs (dh st')
     | some v =>
       refine SB (res:=some v) hF hE hP nm rZ hf dO dU eu et jG (λc=>hd i _ c rZ) gb hs hQ (λe=>by simp at e) ?_
       rintro p e w' G' u h1 h2 h3
       cases e
       exact hb v rfl a w' G' u rfl h1 h2 h3
   ·simp at h
theorem J9:∀{os:List Oper} {pos:List PO} {ops:List Oper},Il E vs ops os=some pos→os.length=pos.length∧∀(i:Nat) (o:Oper),os[i]? = some o→∃p,pos[i]? = some p∧Ir E vs ops o=some p
 | [],pos,ops,h=>by simp[Il] at h; subst h; simp
 | o :: os, pos, ops, h => by
   simp only[Il,aj,ab] at h
   obtain⟨p,hp,ps,ey,rfl⟩:=h
   obtain⟨h1,h2⟩:=J9 ey
   refine⟨by simp[h1],?_⟩
   intro i x hx
   cases i with
   | zero=>simp at hx; subst hx; exact⟨p,rfl,hp⟩
   | succ i=>exact h2 i x (by simpa using hx)
theorem Ka (hF:Al N P L) (hE:EnvOk E N) (hP:E.P=P) (dR:P.follows .mixedOrders=true) (dx:vs.Nodup) {cf:yt} (dO:CallOK N P cf) {ob:Aa} (dU:Gp N P ob) (eu:Iq N P ob)
  (et:∀k args h r,cf k args h=some r→∃f,L k=some f) (jG:∀k args h x,ob k args h=some x→∃f,L k=some f)
  {id:Nat} {ops:Array Oper} {d:Bool} {pos:List PO} (hc:E3 E nt vs ops d=some pos) {w:World} {G:GS} {st st':St} {a:Act} {res:Option PV} (hs:zU cf ob 0 pos (CK pos.length st)=some (res,st')) (hb:BI N w G st a vs nt) (hQ:¬LetsOut Q)
  (hk:res=none→∀a' w' G',FI N w' G' st' a' vs (yk vs ops.toList)→Ext w G w' G'→nt≤a'.tmps.size→Q .normal a' w')
  (tD:∀p,res=some p→∀a' w' G' v,VR N w' G'.fix G'.heap v p→Ext w G w' G'→BI N w' G' (zy st') a' vs nt→Q (.panic [{ v,recovered:=false }]) a' w'):(Code.region id ops d).wpIn (W r) 0 P Q a w:=by
 unfold E3 at hc
 split at hc
 ·rename_i de
  simp only[ap] at de
  simp only[aj] at hc
  obtain⟨pos',dB,hc⟩:=hc
  split at hc
  ·simp at hc
  ·rename_i fS
   simp at hc; subst hc
   have nm:=J7 dx de.1.1
   have cY:ops.size=pos'.length:=by have:=(J9 dB).1; simpa using this
   have gt:=FI.begin hb (yk vs ops.toList) (J4 de.1.2) pos'.length
   have hx:Bx cf ob pos' (List.range' 0 pos'.length) (CK pos'.length st)=some (res,st'):=by
    rw[← SC (all:=pos') (by simp)]; exact hs
   have dt:res=none→Next1 N w G a st' vs ops.toList (Q .normal):=λhn a' w' G' h1 h2 h3=>hk hn a' w' G' h1 h2 (by rw[h3]; exact hb.size)
   have qK:∀p,res=some p→∀a' w' G' v,a'.tmps.size=a.tmps.size→VR N w' G'.fix G'.heap v p→Ext w G w' G'→FI N w' G' st' a' vs (yk vs ops.toList)→Q (.panic [{ v,recovered:=false }]) a' w':=
    λp hp a' w' G' v h1 h2 h3 h4=>tD p hp a' w' G' v h2 h3 (FI.finish h4 (by rw[h1]; exact hb.size))
   have dx:=NE de.2
   cases d with
   | false =>
     refine wpIn_region ?_
     have:List.range ops.size=List.range' 0 pos'.length:=by rw[cY,cP]
     rw[this]
     exact NI hF hE hP nm dO dU eu et jG dx (J9 dB).2 cY hQ hx gt dt qK
   | true =>
     have lA:E2 ops pos'=true:=by simpa using fS
     refine wpIn_region_draw λt =>?_
     have lz:FI N w.drew G (CK pos'.length st) a vs (yk vs ops.toList):=gt.ext (Ip w G) (Sy w G) gt.gen gt.owlt gt.fixlt
     simp only[Region.schedule,dR,Bool.true_or,if_true]
     have iH:=c7x cY lA ops.size t (listed:=Array.replicate ops.size false) (by simp) (by rw[J5]; simp) (Sz ops) (by rw[J5,cY]; exact hx)
     exact NI hF hE hP nm dO dU eu et jG dx (J9 dB).2 cY hQ iH lz (λhn=>(dt hn).trans (Ip w G) rfl)
      (λp hp a' w' G' v h1 h2 h3 h4=>qK p hp a' w' G' v h1 h2 ((Ip w G).trans h3) h4)
 ·simp at hc
theorem BI.putOther {w:World} {G:GS} {st:St} {a:Act} (h:BI N w G st a vs nt) {d:Tmp} (hd:(zQ d vs 0).isNone=true) (v:Value):BI N w G st (a.put (some d) v) vs nt:=by
 refine⟨⟨h.fi.len,?_,(by intro j t u hj; simp at hj),λi t ht=>by simpa[Act.put] using h.fi.tv i t ht,(by intro j t hj; simp at hj),h.fi.defers,h.fi.gen,h.fi.owlt,h.fi.fixlt,h.fi.heap,h.fi.hdom⟩,by simpa[Act.put] using h.size⟩
 intro i t u h1 h2
 have dh:t≠d:=by
  rintro rfl
  have:=NJ h1 0
  simp at hd
  rw[hd] at this
  simp at this
 have:(a.put (some d) v).eval (.tmp t)=a.eval (.tmp t):=by
  simp only[Act.eval,Act.put,aV,bi]
  rw[ae (Ne.symm dh)]
 rw[this]
 exact h.fi.var i t u h1 h2
theorem SD (hF:Al N P L) (hE:EnvOk E N) (hP:E.P=P) {ops:Array Oper} (nm:Names vs (yk vs ops.toList)) {cf:yt} (dO:CallOK N P cf)
  (et:∀k args h x,cf k args h=some x→∃f,L k=some f) (hd:∀(i:Nat) (o:Oper) c,ops[i]? = some o→o.op≠.defer c) {pos:List PO} (dB:∀(i:Nat) (p:PO),pos[i]? = some p→∃o,ops[i]? = some o∧FH E vs ops.toList o=some p)
  {st':St} (hQ:¬LetsOut Q) {rest:List Nat}:
  ∀{l:List Nat} {st:St} {w:World} {G:GS} {a:Act},Am cf pos l st=some st'→FI N w G st a vs (yk vs ops.toList)→Next1 N w G a st' vs ops.toList (wpOpsIn (W r) 0 P ops Q rest)→wpOpsIn (W r) 0 P ops Q (l++rest) a w
 | [], st, w, G, a, h, hf, hk => by
   simp only[Am,aa] at h
   subst h
   exact hk _ _ G hf (Ext.refl _ _) rfl
 | i :: l, st, w, G, a, h, hf, hk => by
   simp only[Am] at h
   split at h
   ·rename_i p hp
    simp only[aj] at h
    obtain⟨st1,h1,h2⟩:=h
    obtain⟨o,ho,gb⟩:=dB i p hp
    rw[aK,wpOpsIn_cons]
    refine NK (λo' c eQ=>hd i o' c eQ) hQ (Kb hF hE hP nm ho hf dO et gb h1 ?_)
    intro a' w' G' iP he dj
    exact SD hF hE hP nm dO et hd dB hQ h2 iP (hk.trans he dj)
   ·simp at h
theorem b8S (hF:Al N P L) (hE:EnvOk E N) (hP:E.P=P) (dx:vs.Nodup) {cf:yt} (dO:CallOK N P cf) (et:∀k args h r,cf k args h=some r→∃f,L k=some f)
  {id:Nat} {ops:Array Oper} {pos:List PO} {t:Nat} {px:PX} (hc:Im E nt vs ops=some (pos,t,px)) {w:World} {G:GS} {st st1:St} {a:Act} {u:PV} (hs:AG cf pos st=some st1) (hu:rd st1 px=some u) (hb:BI N w G st a vs nt) (hQ:¬LetsOut Q)
  (tD:∀a' w' G' v,VR N w' G'.fix G'.heap v (.iface t u)→Ext w G w' G'→BI N w' G' (zy st1) a' vs nt→Q (.panic [{ v,recovered:=false }]) a' w'):(Code.region id ops false).wpIn (W r) 0 P Q a w:=by
 unfold Im at hc
 split at hc
 ·rename_i de
  simp only[ap] at de
  split at hc
  ·rename_i d T x ty1 p1 af1 dst2 d' ty2 p2 af2 jZ
   split at hc
   ·simp at hc
   ·simp at hc
   ·rename_i tu tE xi
    split at hc
    ·rename_i iK
     obtain⟨rfl,pI,h2⟩:=iK
     simp only[aj,ab,ac] at hc
     obtain⟨pos',dB,px',gn,i,hi,rfl,rfl,rfl⟩:=hc
     obtain⟨m,hm⟩:∃m,ops.size=m+2:=⟨ops.size - 2,by omega⟩
     rw[hm] at jZ dB
     simp only[Nat.add_sub_cancel] at jZ dB
     have nm:=J7 dx de.1.1
     have fl:pos'.length=m:=by
      have:=(E4 dB).1
      rw[ba] at this
      simp at this
      omega
     have fF:=NE de.2
     have xj:∀(i:Nat) (p:PO),pos'[i]? = some p→∃o,ops[i]? = some o∧FH E vs ops.toList o=some p:=by
      intro i p hp
      have dc:=(ah.1 hp).1
      have lB:i<ops.size:=by omega
      obtain⟨p',fB,gb⟩:=(E4 dB).2 i ops[i] (by rw[cD (by omega)]; simp[lB])
      rw[hp] at fB
      cases fB
      exact⟨ops[i],by simp[lB],gb⟩
     have gt:=FI.begin hb (yk vs ops.toList) (J4 de.1.2) pos'.length
     have hx:Am cf pos' (List.range' 0 pos'.length) (CK pos'.length st)=some st1:=by
      rw[← J8 (all:=pos') (by simp)]; exact hs
     have vD:ops.toList[m]? = some ⟨some d,.makeInterface T x,ty1,p1,af1,none⟩:=by
      have:=aL (·[0]?) jZ
      simpa[bc] using this
     have tF:ops.toList[m+1]? = some ⟨dst2,.panic (.tmp d),ty2,p2,af2,none⟩:=by
      have:=aL (·[1]?) jZ
      simpa[bc] using this
     have dy:d<nt:=by
      have:=aN.1 de.1.2 _ (ax vD)
      simpa using this
     have jH:List.range ops.size=List.range' 0 pos'.length++[m,m+1]:=by
      rw[hm,fl,cP,List.range'_eq_append_iff]
      exact⟨m,by omega,rfl,by rw[show m+2 - m=2 by omega]; simp[List.range'_succ]⟩
     refine wpIn_region ?_
     rw[jH]
     refine SD hF hE hP nm dO et fF xj hQ hx gt ?_
     intro a' w' G' iP he dj
     have eI:=(yT hE gn iP hu).1
     have xk:=hE.pt T i hi
     have xl:P.underlying T=some tu:=by rw[← hP]; exact xi
     rw[wpOpsIn_cons]
     unfold wpOpIn
     have sV:ops[m]? = some ⟨some d,.makeInterface T x,ty1,p1,af1,none⟩:=by simpa using vD
     have xm:ops[m+1]? = some ⟨dst2,.panic (.tmp d),ty2,p2,af2,none⟩:=by simpa using tF
     simp only[sV,Region.wanted,if_true]
     refine⟨λ_ _=>Cq _,?_⟩
     rw[Oper.semAt_eq _ _ _ (by simp)]
     have da:(execOp a'.eval (⟨some d,.makeInterface T x,ty1,p1,af1,none⟩:Oper)).run P w' = .ok (.value (.iface T (a'.eval x))) w':=by
      have xn:=run_underlying xl w'
      simp only[execOp,Instr.makeInterface,Sem.run_bind,xn,Result.andThen_ok]
      cases tu<;>first|(exfalso; exact tE _ rfl)|simp
     rw[da,Oper.uponIn_value]
     rw[wpOpsIn_cons]
     unfold wpOpIn
     simp only[xm,Region.wanted,if_true]
     refine⟨λ_ _=>Cq _,?_⟩
     rw[Oper.semAt_eq _ _ _ (by simp)]
     have fN:(a'.put (some d) (.iface T (a'.eval x))).eval (.tmp d) = .iface T (a'.eval x):=by
      have:d<a'.tmps.size:=by rw[dj]; exact aP dy hb.size
      simp[Act.eval,Act.put,aV,bi,this]
     have lC:(execOp (a'.put (some d) (.iface T (a'.eval x))).eval (⟨dst2,.panic (.tmp d),ty2,p2,af2,none⟩:Oper)).run P w' = .halt (.panic (.iface T (a'.eval x))) w':=by
      simp only[execOp,Instr.panic,fN]
      rfl
     rw[lC,Oper.uponIn_panic]
     refine tD _ w' G' _ ?_ he ((FI.finish iP (by rw[dj]; exact hb.size)).putOther pI _)
     rw[← xk]
     exact .iface _ _ _ eI
    ·simp at hc
  ·simp at hc
 ·simp at hc
end
def PExit.plain:PExit→Bool
 | .after _ _ _=>false
 | _=>true
def Clo (N:Nm) (w':World) (G':GS) (kd:Nat) (caps:List PV):Prop:=
 ∃ (d : Deferred) (ds : List Deferred) (vals : Array Value), G'.df = d :: ds ∧ d = { target := .fn (.func (N.fn kd)) vals, args := #[] } ∧ vals.size = caps.length ∧
   ∀(i:Nat) (v:Value) (p:PV),vals[i]? = some v→caps[i]? = some p→VR N w' G'.fix G'.heap v p
def Bk (N:Nm) (w':World) (G':GS):PExit→Exit→Prop
 | .normal,e=>e = .normal
 | .exit id,e=>e = .exit id
 | .ret,e=>e = .ret
 | .boom p,e=>∃v,e = .panic [{ v,recovered:=false }]∧VR N w' G'.fix G'.heap v p
 | .after kd caps none,e=>(e = .normal∨e = .ret)∧Clo N w' G' kd caps
 | .after kd caps (some p),e=>(∃v,e = .panic [{ v,recovered:=false }]∧VR N w' G'.fix G'.heap v p)∧Clo N w' G' kd caps
def DfR (p:PC) (x:PExit) (w:World) (G:GS) (w':World) (G':GS):Prop:=
 match x with
 | .after _ _ _=>p.NR=true→∃d,G'.df=d::G.df
 | _=>∃ms,G'.df=ms++G.df∧Marks w w' G' ms∧(p.NR=true→ms=[])
def z7:Code→List (Array Tmp×Code×Code)
 | .seq a b | .cond _ a b=>z7 a++z7 b
 | .block _ c | .loop c=>z7 c
 | .rangeFunc _ ps a b=>[(ps,a,b)]
 | _=>[]
def LpOK (E:Env) (N:Nm) (nt:Nat) (fid:FuncId) (c:Code):Prop:=
 ∀ps kb vars,(ps,kb,vars)∈E.lps→∀x∈z7 c,x.1=ps→N.yl kb=some ⟨fid,ps,x.2.1,x.2.2,vars,nt⟩
theorem LpOK.sub {E:Env} {N:Nm} {nt:Nat} {fid:FuncId} {c c':Code} (h:LpOK E N nt fid c) (hs:∀x∈z7 c',x∈z7 c):LpOK E N nt fid c':=λps kb vars hl x hx=>h ps kb vars hl x (hs x hx)
theorem Ext.size_le {w w':World} {G G':GS} (h:ExtD w G w' G'):w.heap.size≤w'.heap.size:=Ext.size h
theorem DfR.plain {p:PC} {x:PExit} {w w':World} {G G':GS} (h:G'.df=G.df) (hx:∀kd caps v,x≠.after kd caps v):DfR p x w G w' G':=by
 unfold DfR
 cases x with
 | after kd caps v=>exact absurd rfl (hx kd caps v)
 | _=>exact⟨[],by simpa using h,Marks.nil _ _ _,λ_=>rfl⟩
theorem DfR.trans {p q s:PC} {x:PExit} {w w1 w2:World} {G G1 G2:GS} (e1:ExtD w G w1 G1) (h1:DfR p .normal w G w1 G1) (e2:ExtD w1 G1 w2 G2) (h2:DfR q x w1 G1 w2 G2) (hs:s.NR=true→p.NR=true∧q.NR=true):DfR s x w G w2 G2:=by
 obtain⟨ms,a1,a2,a3⟩:=h1
 have marks:∀ms2,G2.df=ms2++G1.df→Marks w1 w2 G2 ms2→(q.NR=true→ms2=[])→∃ms,G2.df=ms++G.df∧Marks w w2 G2 ms∧(s.NR=true→ms=[]):=by
  intro ms2 b1 b2 b3
  exact⟨ms2++ms,by rw[b1,a1]; simp,Marks.join (Ext.size_le e1) a2 e2 b2,λh=>by rw[b3 (hs h).2,a3 (hs h).1]; rfl⟩
 unfold DfR at h2 ⊢
 cases x with
 | after kd caps v =>
   intro h
   obtain⟨d,hd⟩:=h2 (hs h).2
   exact⟨d,by rw[hd,a1,a3 (hs h).1]; rfl⟩
 | normal=>obtain⟨ms2,b1,b2,b3⟩:=h2; exact marks ms2 b1 b2 b3
 | ret=>obtain⟨ms2,b1,b2,b3⟩:=h2; exact marks ms2 b1 b2 b3
 | exit id=>obtain⟨ms2,b1,b2,b3⟩:=h2; exact marks ms2 b1 b2 b3
 | boom v=>obtain⟨ms2,b1,b2,b3⟩:=h2; exact marks ms2 b1 b2 b3
theorem DfR.weak {p s:PC} {x:PExit} {w w1 w2:World} {G G1 G2:GS} (e1:ExtD w G w1 G1) (h1:G1.df=G.df) (e2:ExtD w1 G1 w2 G2) (h2:DfR p x w1 G1 w2 G2) (hs:s.NR=true→p.NR=true):DfR s x w G w2 G2:=
 DfR.trans (p := .skip) e1 (DfR.plain h1 (by simp)) e2 h2 (λh=>⟨rfl,hs h⟩)
theorem DC {K:Act→World→Prop} {Q:Exit→Act→World→Prop} (h:¬LetsOut Q):¬LetsOut (Exit.then K Q):=fun⟨a,w,hq⟩=>h ⟨a,w,hq⟩
theorem NL {id:Nat} {Q:Exit→Act→World→Prop} (h:¬LetsOut Q):¬LetsOut (Exit.inBlock id Q):=fun⟨a,w,hq⟩=>h ⟨a,w,hq⟩
theorem D6 {L:Nat→Option PFunc}:∀{n:Nat} {p:PC} {st st':St} {kd:Nat} {cs:List PV} {v:Option PV},p.RO=true→yr L n p st=some (.after kd cs v,st')→False
 | 0,p,st,st',kd,cs,v,_,h=>by simp[yr] at h
 | n + 1, p, st, st', kd, cs, v, hr, h => by
   rw[yr.eq_def] at h
   cases p with
   | rangeF x kb caps=>simp[PC.RO] at hr
   | guarded k2 caps c=>simp[PC.RO] at hr
   | round a b=>simp at h
   | skip=>simp at h
   | exit id=>simp at h
   | ret=>simp at h
   | region ops=>simp at h
   | raise ops t x =>
     simp only at h
     split at h
     ·rename_i st1 _
      cases hx:rd st1 x with
      | none=>rw[hx] at h; simp at h
      | some p=>rw[hx] at h; simp at h
     ·simp at h
   | bregion ops=>simp only at h; split at h<;>simp at h
   | branch ops x a b =>
     simp only[PC.RO,ap] at hr
     simp only at h
     split at h
     ·split at h
      ·rename_i t _
       cases t
       ·exact D6 hr.2 h
       ·exact D6 hr.1 h
      ·simp at h
     ·simp at h
   | bbranch ops x a b =>
     simp only[PC.RO,ap] at hr
     simp only at h
     split at h
     ·split at h
      ·rename_i t _
       cases t
       ·exact D6 hr.2 h
       ·exact D6 hr.1 h
      ·simp at h
     ·simp at h
     ·simp at h
   | seq a b =>
     simp only[PC.RO,ap] at hr
     simp only at h
     split at h
     ·exact D6 hr.2 h
     ·simp at h
     ·exact D6 hr.1 h
   | block id c =>
     simp only[PC.RO] at hr
     simp only at h
     split at h
     ·split at h<;>simp at h
     ·simp at h
     ·exact D6 hr h
   | loop c =>
     have gc:=hr
     simp only[PC.RO] at hr
     simp only at h
     split at h
     ·exact D6 gc h
     ·simp at h
     ·exact D6 hr h
section
variable {E:Env} {N:Nm} {vs:List Tmp} {P:Program} {nt:Nat} {L:Nat→Option PFunc}
def KQ (N:Nm) (vs:List Tmp) (nt:Nat) (p:PC) (x:PExit) (st':St) (w:World) (G:GS) (Q:Exit→Act→World→Prop):Prop:=
 ∀a' w' G' e,Bk N w' G' x e→BI N w' G' st' a' vs nt→ExtD w G w' G'→DfR p x w G w' G'→Q e a' w'
theorem Kc {K:Act→World→Prop} {Q:Exit→Act→World→Prop} {p:PC} {x:PExit} {st':St} {w:World} {G:GS} (hx:x≠.normal) (ha:∀kd caps v,x≠.after kd caps v) (h:KQ N vs nt p x st' w G Q):KQ N vs nt p x st' w G (Exit.then K Q):=by
 intro a' w' G' e he hb cX hd
 have:=h a' w' G' e he hb cX hd
 cases x with
 | normal=>exact absurd rfl hx
 | after kd caps v=>exact absurd rfl (ha kd caps v)
 | exit id=>simp only[Bk] at he; subst he; exact this
 | ret=>simp only[Bk] at he; subst he; exact this
 | boom v=>obtain⟨u,rfl,_⟩:=he; exact this
structure Runs (N:Nm) (P:Program) (L:Nat→Option PFunc) (n:Nat):Prop where
 call:CallOK N P (zT (yr L n) L)
 out:Gp N P (Ae (yr L n) L)
 round:Iq N P (Ae (yr L n) L)
 yl:∀k,EJ L k=true→N.yl k=none
theorem FJ {n:Nat} {k:Nat} {args:List PV} {h:List PObj} {x} (hc:zT (yr L n) L k args h=some x):∃f,L k=some f:=by
 unfold zT at hc
 split at hc
 ·simp at hc
 ·rename_i f hf; exact⟨f,hf⟩
theorem Gq {n:Nat} {k:Nat} {args:List PV} {h:List PObj} {x} (hc:Ae (yr L n) L k args h=some x):∃f,L k=some f:=by
 unfold Ae at hc
 split at hc
 ·simp at hc
 ·rename_i f hf; exact⟨f,hf⟩
theorem EA (hF:Al N P L) (hE:EnvOk E N) (hP:E.P=P) (dR:P.follows .mixedOrders=true) (dx:vs.Nodup) {fid:FuncId} {rd':Option Nat}:
  ∀ (n : Nat), (∀ m, m < n → Runs N P L m) → ∀ {c : Code} {p : PC} {x : PExit} {st st' : St} {w : World} {G : GS} {a : Act} {Q : Exit → Act → World → Prop}, Cmp E nt vs c p → yr L n p st = some (x, st') → BI N w G st a vs nt → LpOK E N nt fid c →
    (rd'=none∨p.RO=true)→¬LetsOut Q→KQ N vs nt p x st' w G Q→wpN rd' fid P c Q a w
 | 0,_,c,p,x,st,st',w,G,a,Q,_,h,_,_,_,_,_=>by simp[yr] at h
 | n + 1, dr, c, p, x, st, st', w, G, a, Q, hc, h, hb, hY, hR, hQ, hk => by
   have da:=dr n (by omega)
   have branch:∀{m:Nat},m≤n→∀{id:Nat} {ops:Array Oper} {d:Bool} {pos:List PO} {cc:Operand} {px:PX} {x1 y1:Code} {p1 p2:PC} {Q:Exit→Act→World→Prop} {x:PExit} {st':St},DB E nt vs ops d=some pos→cx E vs ops.toList cc=some px→Cmp E nt vs x1 p1→Cmp E nt vs y1 p2 →
     LpOK E N nt fid x1→LpOK E N nt fid y1→(rd'=none∨(p1.RO=true∧p2.RO=true))→¬LetsOut Q →
     yr L (m+1) (.branch pos px p1 p2) st=some (x,st')→KQ N vs nt (.branch pos px p1 p2) x st' w G Q→wpN rd' fid P (.region id ops d) (Exit.then (wpN rd' fid P (.cond cc x1 y1) Q) Q) a w:=by
    intro m hm id ops d pos cc px x1 y1 p1 p2 Q x st' ia fy hx hy tG tI hR hQ h hk
    have ih := @EA hF hE hP dR dx fid rd' m (λm' kT=>dr m' (by omega))
    have da:=dr m (by omega)
    simp only[yr] at h
    split at h
    ·rename_i st1 fo
     split at h
     ·rename_i t ht
      refine E5 (SA hF hE hP dR dx da.call (λ_ _ _ _=>FJ) ia fo hb (DC hQ) ?_)
      intro a' w' G' hf he dj
      have fN:=(yT hE fy hf ht).1
      have fJ:a'.eval cc = .bool t:=by generalize a'.eval cc=z at fN; cases fN; rfl
      have dn:=FI.finish (nt:=nt) hf dj
      refine NM fJ ?_
      have knext:∀(pq:PC),(pq=p1∨pq=p2)→KQ N vs nt pq x st' w' G' Q:=by
       intro pq qL a2 w2 G2 e2 h1 h2 h3 h4
       refine hk a2 w2 G2 e2 h1 h2 (ExtD.trans (.of he) h3) (DfR.weak (.of he) he.df h3 h4 ?_)
       intro hn
       simp only[PC.NR,ap] at hn
       rcases qL with rfl|rfl
       ·exact hn.1
       ·exact hn.2
      cases t with
      | true=>exact ih hx (by simpa using h) dn tG (hR.imp (λh=>h) (·.1)) hQ (knext _ (.inl rfl))
      | false=>exact ih hy (by simpa using h) dn tI (hR.imp (λh=>h) (·.2)) hQ (knext _ (.inr rfl))
     ·simp at h
    ·simp at h
   have bbranch:∀{m:Nat},m≤n→∀{id:Nat} {ops:Array Oper} {d:Bool} {pos:List PO} {cc:Operand} {px:PX} {x1 y1:Code} {p1 p2:PC} {Q:Exit→Act→World→Prop} {x:PExit} {st':St},E3 E nt vs ops d=some pos→cx E vs ops.toList cc=some px→Cmp E nt vs x1 p1→Cmp E nt vs y1 p2 →
     LpOK E N nt fid x1→LpOK E N nt fid y1→(rd'=none∨(p1.RO=true∧p2.RO=true))→¬LetsOut Q →
     yr L (m+1) (.bbranch pos px p1 p2) st=some (x,st')→KQ N vs nt (.bbranch pos px p1 p2) x st' w G Q→wpN rd' fid P (.region id ops d) (Exit.then (wpN rd' fid P (.cond cc x1 y1) Q) Q) a w:=by
    intro m hm id ops d pos cc px x1 y1 p1 p2 Q x st' ia fy hx hy tG tI hR hQ h hk
    have ih := @EA hF hE hP dR dx fid rd' m (λm' kT=>dr m' (by omega))
    have da:=dr m (by omega)
    simp only[yr] at h
    split at h
    ·rename_i st1 fo
     split at h
     ·rename_i t ht
      refine E5 (Ka (res:=none) hF hE hP dR dx da.call da.out da.round (λ_ _ _ _=>FJ) (λ_ _ _ _=>Gq) ia fo hb (DC hQ) ?_ (λp e=>by simp at e))
      intro _ a' w' G' hf he dj
      have fN:=(yT hE fy hf ht).1
      have fJ:a'.eval cc = .bool t:=by generalize a'.eval cc=z at fN; cases fN; rfl
      have dn:=FI.finish (nt:=nt) hf dj
      refine NM fJ ?_
      have knext:∀(pq:PC),(pq=p1∨pq=p2)→KQ N vs nt pq x st' w' G' Q:=by
       intro pq qL a2 w2 G2 e2 h1 h2 h3 h4
       refine hk a2 w2 G2 e2 h1 h2 (ExtD.trans (.of he) h3) (DfR.weak (.of he) he.df h3 h4 ?_)
       intro hn
       simp only[PC.NR,ap] at hn
       rcases qL with rfl|rfl
       ·exact hn.1
       ·exact hn.2
      cases t with
      | true=>exact ih hx (by simpa using h) dn tG (hR.imp (λh=>h) (·.1)) hQ (knext _ (.inl rfl))
      | false=>exact ih hy (by simpa using h) dn tI (hR.imp (λh=>h) (·.2)) hQ (knext _ (.inr rfl))
     ·simp at h
    ·rename_i v st1 fo
     simp only[aa,ac] at h
     obtain⟨rfl,rfl⟩:=h
     refine E5 (Ka (res:=some v) hF hE hP dR dx da.call da.out da.round (λ_ _ _ _=>FJ) (λ_ _ _ _=>Gq) ia fo hb (DC hQ) (λe=>by simp at e) ?_)
     rintro p e a' w' G' u hu he dn
     cases e
     exact hk a' w' G' _ ⟨u,rfl,hu⟩ dn (.of he) (DfR.plain he.df (by simp))
    ·simp at h
   have nrB:∀{pos:List PO} {px:PX} {p1 p2:PC},(rd'=none∨(PC.branch pos px p1 p2).RO=true)→(rd'=none∨(p1.RO=true∧p2.RO=true)):=by
    intro pos px p1 p2 h
    exact h.imp id (λh=>by simpa[PC.RO] using h)
   have nrBB:∀{pos:List PO} {px:PX} {p1 p2:PC},(rd'=none∨(PC.bbranch pos px p1 p2).RO=true)→(rd'=none∨(p1.RO=true∧p2.RO=true)):=by
    intro pos px p1 p2 h
    exact h.imp id (λh=>by simpa[PC.RO] using h)
   have ih := @EA hF hE hP dR dx fid rd' n (λm hm=>dr m (by omega))
   have up:∀{id:Nat} {ops:Array Oper} {d:Bool} {cc:Operand} {x1 y1 r:Code} {a:Act} {w:World},wpN rd' fid P (.region id ops d) (Exit.then (wpN rd' fid P (.cond cc x1 y1) (Exit.then (wpN rd' fid P r Q) Q)) (Exit.then (wpN rd' fid P r Q) Q)) a w→wpN rd' fid P (.region id ops d) (Exit.then (wpN rd' fid P (.seq (.cond cc x1 y1) r) Q) Q) a w:=by
    intro id ops d cc x1 y1 r a w hw
    refine c5t hw ?_
    intro e a' w' hq
    cases e<;>simp only[Exit.then] at hq ⊢
    ·exact FK hq
    all_goals exact hq
   cases hc with
   | stuck=>simp[Cp,yr,AG,AO,rd,raw,cp] at h
   | skip =>
     simp only[yr,aa,ac] at h
     obtain⟨rfl,rfl⟩:=h
     exact c5u (hk _ _ G .normal rfl hb (ExtD.refl _ _) (DfR.plain rfl (by simp)))
   | exit id =>
     simp only[yr,aa,ac] at h
     obtain⟨rfl,rfl⟩:=h
     exact SE (hk _ _ G (.exit id) rfl hb (ExtD.refl _ _) (DfR.plain rfl (by simp)))
   | ret =>
     simp only[yr,aa,ac] at h
     obtain⟨rfl,rfl⟩:=h
     exact SG (hk _ _ G .ret rfl hb (ExtD.refl _ _) (DfR.plain rfl (by simp)))
   | region id ops d pos ia =>
     simp only[yr,ab,ac] at h
     obtain⟨st1,fo,rfl,rfl⟩:=h
     exact E5 (SA hF hE hP dR dx da.call (λ_ _ _ _=>FJ) ia fo hb hQ (λa' w' G' hf he dj=>hk a' w' G' .normal rfl (FI.finish hf dj) (.of he) (DfR.plain he.df (by simp))))
   | bregion id ops d pos ia =>
     simp only[yr] at h
     split at h
     ·rename_i st1 fo
      simp only[aa,ac] at h
      obtain⟨rfl,rfl⟩:=h
      refine E5 (Ka (res:=none) hF hE hP dR dx da.call da.out da.round (λ_ _ _ _=>FJ) (λ_ _ _ _=>Gq) ia fo hb hQ ?_ (λp e=>by simp at e))
      intro _ a' w' G' hf he dj
      exact hk a' w' G' .normal rfl (FI.finish hf dj) (.of he) (DfR.plain he.df (by simp))
     ·rename_i v st1 fo
      simp only[aa,ac] at h
      obtain⟨rfl,rfl⟩:=h
      refine E5 (Ka (res:=some v) hF hE hP dR dx da.call da.out da.round (λ_ _ _ _=>FJ) (λ_ _ _ _=>Gq) ia fo hb hQ (λe=>by simp at e) ?_)
      rintro p e a' w' G' u hu he dn
      cases e
      exact hk a' w' G' _ ⟨u,rfl,hu⟩ dn (.of he) (DfR.plain he.df (by simp))
     ·simp at h
   | raise id ops pos t px ia =>
     simp only[yr] at h
     split at h
     ·rename_i st1 fo
      simp only[ab,ac] at h
      obtain⟨u,hu,rfl,rfl⟩:=h
      refine E5 (b8S hF hE hP dx da.call (λ_ _ _ _=>FJ) ia fo hu hb hQ ?_)
      intro a' w' G' v hv he dn
      exact hk a' w' G' _ ⟨v,rfl,hv⟩ dn (.of he) (DfR.plain he.df (by simp))
     ·simp at h
   | branch id ops d pos cc px x1 y1 p1 p2 ia fy hx hy =>
     exact FK (branch (am _) ia fy hx hy (hY.sub (λz hz=>by simp[z7,hz])) (hY.sub (λz hz=>by simp[z7,hz])) (nrB hR) hQ h hk)
   | bbranch id ops d pos cc px x1 y1 p1 p2 ia fy hx hy =>
     exact FK (bbranch (am _) ia fy hx hy (hY.sub (λz hz=>by simp[z7,hz])) (hY.sub (λz hz=>by simp[z7,hz])) (nrBB hR) hQ h hk)
   | branchSeq id ops d pos cc px x1 y1 r p1 p2 pr ia fy hx hy hr =>
     simp only[yr] at h
     refine FK ?_
     have il:rd'=none∨(PC.branch pos px p1 p2).RO=true:=hR.imp (λh=>h) (λh=>by simp only[PC.RO,ap] at h ⊢; exact h.1)
     have gE:rd'=none∨pr.RO=true:=hR.imp (λh=>h) (λh=>by simp only[PC.RO,ap] at h; exact h.2)
     split at h
     ·rename_i st1 fo
      cases n with
      | zero=>simp[yr] at fo
      | succ m =>
        refine up (branch (Nat.le_succ m) ia fy hx hy (hY.sub (λz hz=>by simp[z7,hz])) (hY.sub (λz hz=>by simp[z7,hz])) (nrB il) (DC hQ) fo ?_)
        intro a' w' G' e he dn cX hd
        simp only[Bk] at he
        subst he
        refine ih hr h dn (hY.sub (λz hz=>by simp[z7,hz])) gE hQ ?_
        intro a2 w2 G2 e2 h1 h2 h3 h4
        exact hk a2 w2 G2 e2 h1 h2 (cX.trans h3) (DfR.trans cX hd h3 h4 (λhn=>by simpa only[PC.NR,ap] using hn))
     ·simp at h
     ·rename_i dh ge
      cases n with
      | zero=>simp[yr] at h
      | succ m =>
        refine up (branch (Nat.le_succ m) ia fy hx hy (hY.sub (λz hz=>by simp[z7,hz])) (hY.sub (λz hz=>by simp[z7,hz])) (nrB il) (DC hQ) h ?_)
        refine Kc (λe=>dh st' (by rw[h,e])) (λkd caps v e=>ge kd caps v st' (by rw[h,e])) ?_
        intro a2 w2 G2 e2 h1 h2 h3 h4
        exact hk a2 w2 G2 e2 h1 h2 h3 (DfR.weak (ExtD.refl _ _) rfl h3 h4 (λhn=>by simp only[PC.NR,ap] at hn ⊢; exact hn.1))
   | bbranchSeq id ops d pos cc px x1 y1 r p1 p2 pr ia fy hx hy hr =>
     simp only[yr] at h
     refine FK ?_
     have il:rd'=none∨(PC.bbranch pos px p1 p2).RO=true:=hR.imp (λh=>h) (λh=>by simp only[PC.RO,ap] at h ⊢; exact h.1)
     have gE:rd'=none∨pr.RO=true:=hR.imp (λh=>h) (λh=>by simp only[PC.RO,ap] at h; exact h.2)
     split at h
     ·rename_i st1 fo
      cases n with
      | zero=>simp[yr] at fo
      | succ m =>
        refine up (bbranch (Nat.le_succ m) ia fy hx hy (hY.sub (λz hz=>by simp[z7,hz])) (hY.sub (λz hz=>by simp[z7,hz])) (nrBB il) (DC hQ) fo ?_)
        intro a' w' G' e he dn cX hd
        simp only[Bk] at he
        subst he
        refine ih hr h dn (hY.sub (λz hz=>by simp[z7,hz])) gE hQ ?_
        intro a2 w2 G2 e2 h1 h2 h3 h4
        exact hk a2 w2 G2 e2 h1 h2 (cX.trans h3) (DfR.trans cX hd h3 h4 (λhn=>by simpa only[PC.NR,ap] using hn))
     ·simp at h
     ·rename_i dh ge
      cases n with
      | zero=>simp[yr] at h
      | succ m =>
        refine up (bbranch (Nat.le_succ m) ia fy hx hy (hY.sub (λz hz=>by simp[z7,hz])) (hY.sub (λz hz=>by simp[z7,hz])) (nrBB il) (DC hQ) h ?_)
        refine Kc (λe=>dh st' (by rw[h,e])) (λkd caps v e=>ge kd caps v st' (by rw[h,e])) ?_
        intro a2 w2 G2 e2 h1 h2 h3 h4
        exact hk a2 w2 G2 e2 h1 h2 h3 (DfR.weak (ExtD.refl _ _) rfl h3 h4 (λhn=>by simp only[PC.NR,ap] at hn ⊢; exact hn.1))
   | seq x1 y1 p1 q1 hx hy =>
     simp only[yr] at h
     refine FK ?_
     have il:rd'=none∨p1.RO=true:=hR.imp (λh=>h) (λh=>by simp only[PC.RO,ap] at h; exact h.1)
     have gE:rd'=none∨q1.RO=true:=hR.imp (λh=>h) (λh=>by simp only[PC.RO,ap] at h; exact h.2)
     split at h
     ·rename_i st1 fo
      refine ih hx fo hb (hY.sub (λz hz=>by simp[z7,hz])) il (DC hQ) ?_
      intro a' w' G' e he dn cX hd
      simp only[Bk] at he
      subst he
      refine ih hy h dn (hY.sub (λz hz=>by simp[z7,hz])) gE hQ ?_
      intro a2 w2 G2 e2 h1 h2 h3 h4
      exact hk a2 w2 G2 e2 h1 h2 (cX.trans h3) (DfR.trans cX hd h3 h4 (λhn=>by simpa only[PC.NR,ap] using hn))
     ·simp at h
     ·rename_i dh ge
      refine ih hx h hb (hY.sub (λz hz=>by simp[z7,hz])) il (DC hQ) ?_
      refine Kc (λe=>dh st' (by rw[h,e])) (λkd caps v e=>ge kd caps v st' (by rw[h,e])) ?_
      intro a2 w2 G2 e2 h1 h2 h3 h4
      exact hk a2 w2 G2 e2 h1 h2 h3 (DfR.weak (ExtD.refl _ _) rfl h3 h4 (λhn=>by simp only[PC.NR,ap] at hn ⊢; exact hn.1))
   | cond cc px x1 y1 p1 q1 fy hx hy =>
     simp only[yr,AG,AO] at h
     split at h
     ·rename_i t ht
      have hf:=FI.begin (lm:=yk vs []) hb (by intro j t hj; simp[yk] at hj) 0
      have fN:=(yT hE fy hf ht).1
      have fJ:a.eval cc = .bool t:=by generalize a.eval cc=z at fN; cases fN; rfl
      have dn:=FI.finish (nt:=nt) hf hb.size
      refine NM fJ ?_
      have knext:∀(pq:PC),(pq=p1∨pq=q1)→KQ N vs nt pq x st' w G Q:=by
       intro pq qL a2 w2 G2 e2 h1 h2 h3 h4
       refine hk a2 w2 G2 e2 h1 h2 h3 (DfR.weak (ExtD.refl _ _) rfl h3 h4 ?_)
       intro hn
       simp only[PC.NR,ap] at hn
       rcases qL with rfl|rfl
       ·exact hn.1
       ·exact hn.2
      cases t with
      | true=>exact ih hx (by simpa using h) dn (hY.sub (c':=x1) (λz hz=>by simp[z7,hz])) ((nrB hR).imp (λh=>h) (·.1)) hQ (knext _ (.inl rfl))
      | false=>exact ih hy (by simpa using h) dn (hY.sub (c':=y1) (λz hz=>by simp[z7,hz])) ((nrB hR).imp (λh=>h) (·.2)) hQ (knext _ (.inr rfl))
     ·simp at h
   | block id x1 p1 hx =>
     simp only[yr] at h
     refine c3r ?_
     have il:rd'=none∨p1.RO=true:=hR
     have pJ:LpOK E N nt fid x1:=hY
     split at h
     ·rename_i i st1 fo
      split at h
      ·rename_i hi
       subst hi
       simp only[aa,ac] at h
       obtain⟨rfl,rfl⟩:=h
       refine ih hx fo hb pJ il (NL hQ) ?_
       intro a' w' G' e he dn cX hd
       simp only[Bk] at he
       subst he
       simp only[Exit.inBlock,if_true]
       exact hk a' w' G' .normal rfl dn cX hd
      ·rename_i hi
       simp only[aa,ac] at h
       obtain⟨rfl,rfl⟩:=h
       refine ih hx fo hb pJ il (NL hQ) ?_
       intro a' w' G' e he dn cX hd
       simp only[Bk] at he
       subst he
       simp only[Exit.inBlock,ae hi]
       exact hk a' w' G' _ rfl dn cX hd
     ·simp at h
     ·rename_i dh ge
      refine ih hx h hb pJ il (NL hQ) ?_
      intro a' w' G' e he dn cX hd
      have:=hk a' w' G' e he dn cX hd
      cases x with
      | normal=>simp only[Bk] at he; subst he; exact this
      | exit i=>exact absurd h (λe=>dh _ _ e)
      | ret=>simp only[Bk] at he; subst he; exact this
      | boom v=>obtain⟨u,rfl,_⟩:=he; exact this
      | after kd caps v=>exact absurd h (λe=>ge _ _ _ _ e)
   | loop x1 p1 hx =>
     refine b4i (n+1) ?_
     have il:rd'=none∨p1.RO=true:=hR
     have pJ:LpOK E N nt fid x1:=hY
     have key:∀(m:Nat),m≤n+1→∀{st:St} {w:World} {G:GS} {a:Act},yr L m (.loop p1) st=some (x,st')→BI N w G st a vs nt→KQ N vs nt (.loop p1) x st' w G Q→Gr rd' fid P x1 Q m a w:=by
      intro m
      induction m with
      | zero=>intro _ st w G a h; simp[yr] at h
      | succ m ihm =>
        intro hm st w G a h hb hk
        rw[b8b]
        have ih' := @EA hF hE hP dR dx fid rd' m (λm' kT=>dr m' (by omega))
        simp only[yr] at h
        split at h
        ·rename_i st1 fo
         refine ih' hx fo hb pJ il (DC hQ) ?_
         intro a' w' G' e he dn cX hd
         simp only[Bk] at he
         subst he
         refine ihm (by omega) h dn ?_
         intro a2 w2 G2 e2 h1 h2 h3 h4
         exact hk a2 w2 G2 e2 h1 h2 (cX.trans h3) (DfR.trans cX hd h3 h4 (λhn=>⟨hn,hn⟩))
        ·simp at h
        ·rename_i dh ge
         refine ih' hx h hb pJ il (DC hQ) ?_
         refine Kc (λe=>dh st' (by rw[h,e])) (λkd caps v e=>ge kd caps v st' (by rw[h,e])) ?_
         intro a2 w2 G2 e2 h1 h2 h3 h4
         exact hk a2 w2 G2 e2 h1 h2 h3 h4
     exact key (n+1) (am _) h hb hk
   | rangeF g ps as body px kb vars caps hg hl hv =>
     simp only[yr] at h
     split at h
     ·rename_i k first captured cs mO lD
      split at h
      ·simp at h
      ·rename_i iY
       have eu:rd'=none:=by rcases hR with h|h; exact h; simp[PC.RO] at h
       subst eu
       have tJ:yk vs []=(λ_=>none):=by funext j; simp[yk]
       have hf:FI N w G st a vs (yk vs []):=by rw[tJ]; exact hb.fi
       have vE:=(yT hE hg hf mO).1
       obtain⟨dY,pK⟩:=Cr hE hf hv lD
       have jU:N.yl k=none:=da.yl k (by simpa using iY)
       generalize xo:a.eval g=gv at vE
       cases vE with
       | yield _ m l y tmps caps' hy _ _ _ _ _=>rw[jU] at hy; simp at hy
       | func _ fs cs' _ _ hy e1 e2 mI d9 =>
         have fg:=run_enterLoop_outer (P:=P) (w:=w) fid a.tmps ps as body
         have x1:=c2G hb.fi (.deferred (some []))
         have gK:(w.alloc (.deferred (some []))).heap.size=w.heap.size+1:=by simp
         have x2:=c7y x1.2 (ob := .loop true) (mob := .loop { state := .ready,pending:=none,fn:=fid,tmps:=a.tmps,params:=ps,assign:=as,body:=body,defers:=w.heap.size }) (by
          rintro G' rfl _
          refine⟨?_,_,Df,rfl,by simp⟩
          intro o gB
          have:=x1.2.fixlt _ _ gB
          omega)
         rw[gK] at x2
         generalize ij:(w.alloc (.deferred (some []))).alloc (.loop { state := .ready,pending:=none,fn:=fid,tmps:=a.tmps,params:=ps,assign:=as,body:=body,defers:=w.heap.size })=w1 at fg x2
         have ei:w1.heap[w.heap.size+1]? = some (.loop { state := .ready,pending:=none,fn:=fid,tmps:=a.tmps,params:=ps,assign:=as,body:=body,defers:=w.heap.size }):=by
          rw[← ij,← gK]; exact Df
         have kU:w1.heap[w.heap.size]? = some (.deferred (some [])):=by
          rw[← ij,AF (by rw[gK]; omega)]; exact Df
         have fo:w1.heap.size=w.heap.size+2:=by rw[← ij]; simp
         have el:Ext w G w1 (G.more (w.heap.size+1) st.heap.length):=x1.1.trans x2.1
         have f2:=x2.2
         generalize vF:G.more (w.heap.size+1) st.heap.length=G1 at el f2
         have d7:G1.heap st.heap.length=some (w.heap.size+1):=by rw[← vF]; simp[GS.more]
         have qM:G1.ow w.heap.size=none:=by
          rw[← vF]
          simp only[GS.more]
          rw[ae (by omega)]
          cases hx:G.ow w.heap.size with
          | none=>rfl
          | some kk=>have:=hb.fi.owlt _ _ hx; omega
         have tK:VR N w1 G1.fix G1.heap (.func (.yield (w.heap.size+1)) #[] #[]) (.func kb (.ptr st.heap.length 0::cs) []):=by
          refine .yield kb st.heap.length (w.heap.size+1) ⟨fid,ps,as,body,vars,nt⟩ a.tmps cs (hY ps kb vars hl (ps,as,body) (by simp[z7]) rfl) d7 (by simp[Bd,ei]) (by simpa using dY.symm) hb.size ?_
          intro i t p ht hp
          have:=(pK i (.tmp t) p (by simpa using ht) hp).1
          exact VR.ext (by simpa[Act.eval] using this) el
         have dZ:(resolve a.eval (rangeCall g (w.heap.size+1)) 0).run P w1 = .ok { target := .fn (.func (N.fn k)) cs',args:=fs ++ #[.func (.yield (w.heap.size+1)) #[] #[]] } w1:=by
          have oD:a.eval (.const (.func (.yield (w.heap.size+1)) #[] #[])) = .func (.yield (w.heap.size+1)) #[] #[]:=rfl
          simp[resolve,rangeCall,xo,Deferred.ofValue,oD]
         obtain⟨pf,hL⟩:∃f,L k=some f:=by
          split at h
          ·exact Gq (by assumption)
          ·exact Gq (by assumption)
          ·simp at h
         have kz:(invoke (.fn (.func (N.fn k)) cs') (fs ++ #[.func (.yield (w.heap.size+1)) #[] #[]])).run P w1 = .ok (.enter (N.fn k) (fs ++ #[.func (.yield (w.heap.size+1)) #[] #[]]++cs')) w1:=by
          simp only[invoke]
          exact Dg hF hL _ w1
         have em:∀(i:Nat) (v:Value) (p:PV),(fs ++ #[.func (.yield (w.heap.size+1)) #[] #[]]++cs')[i]? = some v→(first ++ .func kb (.ptr st.heap.length 0::cs) []::captured)[i]? = some p→VR N w1 G1.fix G1.heap v p:=by
          intro i v p ea hp
          by_cases hi:i<fs.size
          ·rw[co,bp hi] at ea
           rw[al (by omega)] at hp
           exact(mI i v p ea hp).ext el
          ·rw[co,cq (by omega)] at ea
           rw[aq (by omega),← e1] at hp
           cases hn:i - fs.size with
           | zero =>
             rw[hn] at ea hp
             rw[bp (by simp)] at ea
             simp at ea hp
             subst ea hp
             exact tK
           | succ m =>
             rw[hn] at ea hp
             rw[cq (by simp)] at ea
             simp at ea hp
             exact(d9 m v p ea hp).ext el
         have eW:(fs ++ #[Value.func (.yield (w.heap.size+1)) #[] #[]]++cs').size=(first++PV.func kb (.ptr st.heap.length 0::cs) []::captured).length:=by simp[e1,e2]; omega
         have marks:∀{w' w4:World} {G':GS} {e5:Ext w1 G1 w' G'} {G4:GS},w4.heap[w.heap.size]? = w'.heap[w.heap.size]?→G4.ow=G'.ow→Marks w w4 G4 [{ target := .collected w.heap.size,args := #[] }]:=by
          intro w' w4 G' e5 G4 xq xr
          refine⟨[w.heap.size],rfl,by simp,?_⟩
          intro b hb
          simp only[aQ] at hb
          subst hb
          refine⟨am _,?_,?_⟩
          ·rw[xq,e5.same _ (by omega) qM]; exact kU
          ·rw[xr]
           cases hx:G'.ow w.heap.size with
           | none=>rfl
           | some kk =>
             rcases e5.own w.heap.size (by rw[hx]; simp) with h|h
             ·omega
             ·exact absurd qM h
         have fin:∀{x':PExit} {j:Option Code} {ob:PObj} {u:PV} {h':List PObj},Ae (yr L n) L k (first ++ .func kb (.ptr st.heap.length 0::cs) []::captured) (st.heap++[.loop true])=some (.val u,h') →
           KQ N vs nt (.rangeF px kb caps) x' { st with heap:=h'.set st.heap.length .gone } w G Q→((j=none∧x' = .normal)∨(j=some .ret∧x' = .ret)∨∃id,j=some (.exit id)∧x' = .exit id) →
           h'[st.heap.length]? = some ob→ob≠.gone→(∀(w':World) (G':GS) (b:Nat),ObjR N w' G' st.heap.length b ob→(∀o,¬G'.fix b o)∧∃r:Go.Loop,w'.heap[b]? = some (.loop r)∧r.pending=j∧r.state≠.busy) →
           wpN none fid P (.rangeFunc g ps as body) Q a w:=by
          intro x' j ob u h' dr hk hj jI ol dU
          refine SH fg dZ kz ((da.out k _ _ _ _ dr jU w1 G1.callee _ (Gs f2) eW em).mono ?_)
          rintro e w' ⟨G2,⟨v,rfl,di⟩,he,dK⟩
          obtain⟨G',cX,dD,g1,g2⟩:=Kd f2 he dK
          rcases dD.heap.1 st.heap.length _ jI with tL|⟨b,k1,k2,k3⟩
          ·exact absurd tL ol
          obtain⟨kf,r,k3,k4,k5⟩:=dU _ _ _ k3
          have:b=w.heap.size+1:=by have:=cX.heap _ _ d7; rw[k1] at this; simpa using this
          subst this
          have fT:=run_endLoop (P:=P) k3 k5
          have fT:=fT.trans (aL (λz=>Result.ok z _) k4)
          obtain⟨e6,xt⟩:=SI (ob' := .gone) (mob := .loop { r with state := .exhausted }) dD k1 k2 kf (by simp[World.shape?,k3]) (by
           intro s hs
           have dc:w.heap.size+1<w'.heap.size:=(aX.1 k3).1
           simp only[Bd,k3] at hs
           simpa[Bd,bi,dc] using hs) (.inl rfl)
          refine⟨_,_,fT,?_⟩
          have dT:=(el.trans cX).trans e6
          have tM:=FI.setDf xt ([{ target := .collected w.heap.size,args := #[] }]++a.defers)
          have last:∀e2,Bk N _ _ x' e2→Q e2 _ _:=λe2 eT=>hk { a with defers:=[{ target := .collected w.heap.size,args := #[] }]++a.defers } (w'.putObj (w.heap.size+1) (.loop { r with state := .exhausted })) { G' with df:=[{ target := .collected w.heap.size,args := #[] }]++a.defers } e2 eT ⟨tM,hb.size⟩ (Ext.setDf dT _) (by
           have hd:∃ms,([{ target := .collected w.heap.size,args := #[] }]++a.defers:List Deferred)=ms++G.df∧Marks w (w'.putObj (w.heap.size+1) (.loop { r with state := .exhausted })) { G' with df:=[{ target := .collected w.heap.size,args := #[] }]++a.defers } ms∧((PC.rangeF px kb caps).NR=true→ms=[]):=
            ⟨[{ target := .collected w.heap.size,args := #[] }],by simp[hb.fi.defers],marks (e5:=cX) (w4:=w'.putObj (w.heap.size+1) (.loop { r with state := .exhausted })) (G4:={ G' with df:=[{ target := .collected w.heap.size,args := #[] }]++a.defers }) (by simp[World.putObj,bi]) rfl,by simp[PC.NR]⟩
           rcases hj with⟨_,rfl⟩|⟨_,rfl⟩|⟨id,_,rfl⟩<;>exact hd)
          rcases hj with⟨rfl,rfl⟩|⟨rfl,rfl⟩|⟨id,rfl,rfl⟩
          ·exact last _ rfl
          ·exact SG (last _ rfl)
          ·exact SE (last _ rfl)
         split at h
         ·rename_i u h' dr
          split at h
          ·rename_i jI
           simp only[aa,ac] at h
           obtain⟨rfl,rfl⟩:=h
           exact fin dr hk (.inl ⟨rfl,rfl⟩) jI (by simp) (λw' G' b ⟨kf,r,k3,k4,k5⟩=>⟨kf,r,k3,k4,by rw[k5]; simp⟩)
          ·rename_i id jI
           simp only[aa,ac] at h
           obtain⟨rfl,rfl⟩:=h
           exact fin dr hk (.inr (.inr ⟨id,rfl,rfl⟩)) jI (by simp) (λw' G' b ⟨kf,r,k3,k4,k5⟩=>⟨kf,r,k3,k4,by rw[k5]; simp⟩)
          ·rename_i jI
           simp only[aa,ac] at h
           obtain⟨rfl,rfl⟩:=h
           exact fin dr hk (.inr (.inl ⟨rfl,rfl⟩)) jI (by simp) (λw' G' b ⟨kf,r,k3,k4,k5⟩=>⟨kf,r,k3,k4,by rw[k5]; simp⟩)
          ·simp at h
         ·rename_i v h' dr
          simp only[aa,ac] at h
          obtain⟨rfl,rfl⟩:=h
          refine SH fg dZ kz ((da.out k _ _ _ _ dr jU w1 G1.callee _ (Gs f2) eW em).mono ?_)
          rintro e w' ⟨G2,⟨u,rfl,di⟩,he,dK⟩
          obtain⟨G',cX,dD,g1,g2⟩:=Kd f2 he dK
          have dT:=el.trans cX
          have tM:=FI.setDf dD ([{ target := .collected w.heap.size,args := #[] }]++a.defers)
          refine hk _ _ _ _ ⟨u,rfl,by rw[← g1,← g2] at di; exact di⟩ ⟨tM,hb.size⟩ (Ext.setDf dT _) ⟨[{ target := .collected w.heap.size,args := #[] }],by simp[hb.fi.defers],marks (e5:=cX) rfl rfl,by simp[PC.NR]⟩
         ·simp at h
     ·simp at h
   | guarded id ops kd caps y q hd hy =>
     simp only[yr] at h
     split at h
     ·simp at h
     ·rename_i iY
      have nh:q.NR=true:=by simpa using iY
      have eu:rd'=none:=by rcases hR with h|h; exact h; simp[PC.RO] at h
      subst eu
      split at h
      ·rename_i cs lD
       unfold ND at hd
       split at hd
       ·rename_i d f first pcaps ty1 ps1 af1 d' args ts2 ty2 ps2 af2 qN
        split at hd
        ·rename_i iK
         obtain⟨rfl,pI,dy,tN,tO⟩:=iK
         simp only[aj,ab,ac] at hd
         obtain⟨k0,kH,pcs,tP,rfl,rfl⟩:=hd
         have tJ:yk vs []=(λ_=>none):=by funext j; simp[yk]
         have hf:FI N w G st a vs (yk vs []):=by rw[tJ]; exact hb.fi
         obtain⟨dY,pK⟩:=Cr hE hf tP lD
         obtain⟨ops⟩:=ops
         simp only at qN
         subst qN
         have qO:first = #[]:=by cases first; simpa using tN
         have qP:args = #[]:=by cases args; simpa using tO
         subst qO qP
         have eH:=hE.fn _ _ kH
         refine FK (E5 (n:=0) (wpIn_region ?_))
         have kA:List.range (Array.mk [({ dst:=some d,op := .makeFunc (.func f) #[] pcaps,type:=ty1,pos:=ps1,after:=af1,guard:=none }:Oper),{ dst:=none,op := .defer { callee := .value (.tmp d),args := #[],argTypes:=ts2 },type:=ty2,pos:=ps2,after:=af2,guard:=none }]).size=[0,1]:=rfl
         rw[kA,wpOpsIn_cons]
         unfold wpOpIn
         simp only[b7,List.getElem?_cons_zero,Region.wanted,if_true]
         refine⟨λ_ _=>Cq _,?_⟩
         rw[show (W none).round=none from rfl,Oper.semAt_none]
         have lE:(execOp a.eval ({ dst:=some d,op := .makeFunc (.func f) #[] pcaps,type:=ty1,pos:=ps1,after:=af1,guard:=none }:Oper)).run P w = .ok (.value (.func (.func f) #[] (pcaps.map a.eval))) w:=by
          simp[execOp,Instr.makeFunc]
         rw[lE,Oper.uponIn_value]
         rw[wpOpsIn_cons]
         unfold wpOpIn
         simp only[b7,cE,List.getElem?_cons_zero,Region.wanted,if_true]
         refine⟨λ_ _=>Cq _,?_⟩
         rw[show (W none).round=none from rfl,Oper.semAt_none]
         have fN:(a.put (some d) (.func (.func f) #[] (pcaps.map a.eval))).eval (.tmp d) = .func (.func f) #[] (pcaps.map a.eval):=by
          have:d<a.tmps.size:=aP dy hb.size
          simp[Act.eval,Act.put,aV,bi,this]
         have lC:(execOp (a.put (some d) (.func (.func f) #[] (pcaps.map a.eval))).eval ({ dst:=none,op := .defer { callee := .value (.tmp d),args := #[],argTypes:=ts2 },type:=ty2,pos:=ps2,after:=af2,guard:=none }:Oper)).run P w =
           .ok (.defer { target := .fn (.func f) (pcaps.map a.eval),args := #[] }) w:=by
          simp[execOp,resolve,fN,Deferred.ofValue]
         rw[lC,Oper.uponIn_defer]
         simp only[wpOpsIn]
         have b1:=hb.putOther pI (.func (.func f) #[] (pcaps.map a.eval))
         generalize iK:({ target := .fn (.func f) (pcaps.map a.eval),args := #[] }:Deferred)=dd
         have b2:BI N w { G with df:=dd::a.defers } st { a.put (some d) (.func (.func f) #[] (pcaps.map a.eval)) with defers:=dd::a.defers } vs nt:=⟨FI.setDf b1.fi _,b1.size⟩
         have jJ:∀(w':World) (G':GS),ExtD w { G with df:=dd::a.defers } w' G'→G'.df=dd::a.defers→Clo N w' G' k0 cs:=by
          intro w' G' cX fF
          refine⟨dd,a.defers,pcaps.map a.eval,fF,by rw[← iK,eH],by simpa using dY,?_⟩
          intro i v p hv hp
          simp only[bU,ab] at hv
          obtain⟨x,hx,rfl⟩:=hv
          have tQ:Ext w { G with df:=G'.df } w' G':=cX
          exact VR.mono (pK i x p (by simpa using hx) hp).1 tQ.fix tQ.heap tQ.shape
         have run:∀(x0:PExit) (st1:St),yr L n q st=some (x0,st1)→x0.plain=true→KQ N vs nt q x0 st1 w { G with df:=dd::a.defers } Q→wpN none fid P y Q { a.put (some d) (.func (.func f) #[] (pcaps.map a.eval)) with defers:=dd::a.defers } w:=by
          intro x0 st1 gF _ pY
          exact ih hy gF b2 (hY.sub (λz hz=>by simp[z7,hz])) (.inl rfl) hQ pY
         have dfs:∀{x0:PExit} {w':World} {G':GS},x0.plain=true→DfR q x0 w { G with df:=dd::a.defers } w' G'→G'.df=dd::a.defers:=by
          intro x0 w' G' gF hd
          have key:(∃ms,G'.df=ms++(dd::a.defers)∧Marks w w' G' ms∧(q.NR=true→ms=[]))→G'.df=dd::a.defers:=by
           rintro⟨ms,h1,_,h3⟩
           rw[h1,h3 nh]; rfl
          cases x0 with
          | after _ _ _=>simp[PExit.plain] at gF
          | normal=>exact key hd
          | exit _=>exact key hd
          | ret=>exact key hd
          | boom _=>exact key hd
         have tR:∀{w':World} {G':GS} {v:Option PV},G'.df=dd::a.defers→DfR (.guarded k0 pcs q) (.after k0 cs v) w G w' G':=λh _=>⟨dd,by rw[h,hb.fi.defers]⟩
         split at h
         ·rename_i st1 gF
          simp only[aa,ac] at h
          obtain⟨rfl,rfl⟩:=h
          refine run .normal _ gF rfl ?_
          intro a' w' G' e he dn cX fF
          have i9:=dfs rfl fF
          exact hk a' w' G' e ⟨.inl he,jJ w' G' cX i9⟩ dn cX (tR i9)
         ·rename_i st1 gF
          simp only[aa,ac] at h
          obtain⟨rfl,rfl⟩:=h
          refine run .ret _ gF rfl ?_
          intro a' w' G' e he dn cX fF
          have i9:=dfs rfl fF
          exact hk a' w' G' e ⟨.inr he,jJ w' G' cX i9⟩ dn cX (tR i9)
         ·rename_i v st1 gF
          simp only[aa,ac] at h
          obtain⟨rfl,rfl⟩:=h
          refine run (.boom v) _ gF rfl ?_
          intro a' w' G' e he dn cX fF
          have i9:=dfs rfl fF
          exact hk a' w' G' e ⟨he,jJ w' G' cX i9⟩ dn cX (tR i9)
         ·simp at h
        ·simp at hd
       ·simp at hd
      ·simp at h
end
end PI
set_option linter.unusedSimpArgs false
set_option linter.unusedVariables false
namespace PI
def DG (cf cf':yt):Prop:=∀k args h r,cf k args h=some r→cf' k args h=some r
theorem c21 {cf cf':yt} (hc:DG cf cf') {o:HOp} {st:St} {r} (h:yo cf o st=some r):yo cf' o st=some r:=by
 cases o<;>try exact h
 case call k args=>
  simp only[yo,aj,ab] at h ⊢
  obtain⟨vs,h1,q,h2,h3⟩:=h
  exact⟨vs,h1,q,hc _ _ _ _ h2,h3⟩
 case zcall k args=>
  simp only[yo,aj] at h ⊢
  obtain⟨vs,h1,h⟩:=h
  refine⟨vs,h1,?_⟩
  split at h
  ·rename_i hw
   rw[af hw]
   simp only[aj] at h ⊢
   obtain⟨q,h4,h5⟩:=h
   exact⟨q,hc _ _ _ _ h4,h5⟩
  ·simp at h
 case rcall k args=>
  simp only[yo,aj] at h ⊢
  obtain⟨vs,h1,q,h2,h3⟩:=h
  exact⟨vs,h1,q,hc _ _ _ _ h2,h3⟩
 case icall tab x args=>
  simp only[yo,aj,ab] at h ⊢
  obtain⟨m,h0,vs,h1,q,h2,h3⟩:=h
  exact⟨m,h0,vs,h1,q,hc _ _ _ _ h2,h3⟩
 case callv x args=>
  simp only[yo] at h ⊢
  split at h
  ·simp only[ab] at h ⊢
   obtain⟨q,h2,h3⟩:=h
   exact⟨q,hc _ _ _ _ h2,h3⟩
  ·simp at h
theorem TK {cf cf':yt} (hc:DG cf cf') {o:POp} {st:St} {r} (h:opv cf o st=some r):opv cf' o st=some r:=by
 cases o<;>try exact h
 case h o=>exact c21 hc h
 case pcall k args=>
  simp only[opv] at h ⊢
  split at h
  ·split at h
   ·rename_i hr
    simp only[hr,if_true]
    split at h
    ·rename_i hx; rw[hc _ _ _ _ hx]; exact h
    ·simp at h
   ·simp at h
  ·simp at h
 case pzcall k args=>
  simp only[opv] at h ⊢
  split at h
  ·split at h
   ·rename_i hr
    simp only[hr,if_true]
    split at h
    ·rename_i hx; rw[hc _ _ _ _ hx]; exact h
    ·simp at h
   ·simp at h
  ·simp at h
 case pcallx k args own=>
  simp only[opv] at h ⊢
  cases own with
  | none =>
    simp only at h ⊢
    split at h
    ·split at h
     ·rename_i hr
      simp only[hr,if_true]
      split at h
      ·rename_i hx; rw[hc _ _ _ _ hx]; exact h
      ·simp at h
     ·simp at h
    ·simp at h
  | some i =>
    simp only at h ⊢
    split at h
    ·split at h
     ·rename_i hr
      rw[af hr]
      split at h
      ·rename_i hx; rw[hc _ _ _ _ hx]; exact h
      ·simp at h
     ·simp at h
    ·simp at h
 case callv x args=>
  simp only[opv] at h ⊢
  split at h
  ·split at h
   ·rename_i hr
    simp only[hr,if_true]
    split at h
    ·rename_i hx; rw[hc _ _ _ _ hx]; exact h
    ·simp at h
   ·simp at h
  ·simp at h
theorem Ox {cf cf':yt} (hc:DG cf cf') {j:Nat} {o:PO} {st:St} {r} (h:zm cf j o st=some r):zm cf' j o st=some r:=by
 simp only[zm] at h ⊢
 split at h
 ·simp only[ab] at h ⊢
  obtain⟨a,h1,h2⟩:=h
  exact⟨a,TK hc h1,h2⟩
 ·split at h
  ·split at h
   ·rename_i hb
    simp only[af hb,ab] at h ⊢
    obtain⟨a,h1,h2⟩:=h
    exact⟨a,TK hc h1,h2⟩
   ·rename_i hb
    rw[ae hb]; exact h
  ·exact h
  ·simp at h
theorem Kr {cf cf':yt} (hc:DG cf cf'):∀{os:List PO} {j:Nat} {st:St} {r},AO cf j os st=some r→AO cf' j os st=some r
 | [],_,_,_,h=>h
 | o :: os, j, st, r, h => by
   simp only[AO,aj] at h ⊢
   obtain⟨a,h1,h2⟩:=h
   exact⟨a,Ox hc h1,Kr hc h2⟩
theorem GL {cf cf':yt} (hc:DG cf cf') {os:List PO} {st:St} {r} (h:AG cf os st=some r):AG cf' os st=some r:=Kr hc h
def GM (ob ob':Aa):Prop:=∀k args h r,ob k args h=some r→ob' k args h=some r
theorem b5W {ex ex':PC→St→Option (PExit×St)} (he:∀c st r,ex c st=some r→ex' c st=some r) {nv:Nat} {a b:PC} {args:List PV} {h:List PObj} {r} (hr:DN ex nv a b args h=some r):DN ex' nv a b args h=some r:=by
 unfold DN at hr ⊢
 split at hr
 ·split at hr
  ·rename_i h1 h2
   simp only[h1,he _ _ _ h2]
   split at hr
   all_goals first
    | (rename_i h3 h4; simp only[h3,he _ _ _ h4]; exact hr)
    | simp at hr
  ·simp at hr
 ·simp at hr
theorem TL {ex ex':PC→St→Option (PExit×St)} (he:∀c st r,ex c st=some r→ex' c st=some r) {dfr} {f:PFunc} {args:List PV} {h:List PObj} {r} (hr:Bp ex dfr f args h=some r):Bp ex' dfr f args h=some r:=by
 unfold Bp at hr ⊢
 split at hr
 ·exact b5W he hr
 ·split at hr
  ·rename_i hx; rw[he _ _ _ hx]; exact hr
  ·rename_i hx; rw[he _ _ _ hx]; exact hr
  ·rename_i hx; rw[he _ _ _ hx]; exact hr
  ·rename_i hx; rw[he _ _ _ hx]; exact hr
  ·simp at hr
theorem IH {x:Option (Out×List PObj)} {r}:IT x=some r↔x=some (.val r.1,r.2):=by
 obtain⟨v,h⟩:=r
 unfold IT
 split
 ·simp
 ·rename_i dh
  constructor
  ·intro e; cases e
  ·intro e; exact absurd e (dh v h)
theorem II {ex ex':PC→St→Option (PExit×St)} (he:∀c st r,ex c st=some r→ex' c st=some r) {dfr} {f:PFunc} {args:List PV} {h:List PObj} {r} (hr:BA ex dfr f args h=some r):BA ex' dfr f args h=some r:=by
 simp only[BA] at hr ⊢
 split at hr
 ·simp at hr
 ·rename_i hn
  rw[ae hn]
  rw[IH] at hr ⊢
  exact TL he hr
theorem DD {a b:Option (PV×List PObj)} {r}:EL a b=some r↔a=some r∧b=some r:=by
 unfold EL
 constructor
 ·intro h
  split at h
  ·rename_i he; exact⟨h,he▸h⟩
  ·simp at h
 ·rintro⟨rfl,rfl⟩; simp
theorem IJ {ex ex':PC→St→Option (PExit×St)} (he:∀c st r,ex c st=some r→ex' c st=some r) {f:PFunc} {o:Option Nat} {args:List PV} {h:List PObj} {r} (hr:Bq ex f o args h=some r):Bq ex' f o args h=some r:=by
 unfold Bq at hr ⊢
 split at hr
 ·simp at hr
 ·rename_i hn
  rw[ae hn]
  split at hr
  ·rename_i hx; rw[he _ _ _ hx]; exact hr
  ·rename_i hx; rw[he _ _ _ hx]; exact hr
  ·simp at hr
theorem b7u {ex ex':PC→St→Option (PExit×St)} (he:∀c st r,ex c st=some r→ex' c st=some r) {f:PFunc} {args:List PV} {h:List PObj} {r} (hr:CL ex f args h=some r):CL ex' f args h=some r:=by
 unfold CL at hr ⊢
 split at hr
 ·split at hr
  ·rename_i hd
   try simp only[hd]
   split at hr
   ·rename_i hl
    rw[af hl]
    split at hr
    ·rename_i hs
     rw[DD] at hr
     rw[af hs,DD]
     exact⟨IJ he hr.1,IJ he hr.2⟩
    ·rename_i hs
     rw[ae hs]
     exact IJ he hr
   ·simp at hr
  ·simp at hr
 ·simp at hr
theorem Oy {ex ex':PC→St→Option (PExit×St)} (he:∀c st r,ex c st=some r→ex' c st=some r) (L:Nat→Option PFunc):DG (zT ex L) (zT ex' L):=by
 intro k args h r hr
 simp only[zT] at hr ⊢
 split at hr
 ·simp at hr
 ·split at hr
  ·rename_i hl
   simp only[af hl]
   split at hr
   ·exact hr
   split at hr
   ·rename_i hs
    rw[DD] at hr
    rw[af hs,DD]
    exact⟨II he hr.1,II he hr.2⟩
   ·rename_i hs
    rw[ae hs]
    exact II he hr
  ·rename_i hl
   rw[ae hl]
   exact b7u he hr
theorem Oz {ex ex':PC→St→Option (PExit×St)} (he:∀c st r,ex c st=some r→ex' c st=some r) (L:Nat→Option PFunc):GM (Ae ex L) (Ae ex' L):=by
 intro k args h r hr
 simp only[Ae] at hr ⊢
 split at hr
 ·simp at hr
 ·split at hr
  ·rename_i hl
   simp only[af hl]
   split at hr
   ·exact hr
   ·exact TL he hr
  ·simp at hr
theorem OA {cf cf':yt} {ob ob':Aa} (hc:DG cf cf') (hb:GM ob ob') {j:Nat} {o:PO} {st:St} {r} (h:Az cf ob j o st=some r):Az cf' ob' j o st=some r:=by
 unfold Az at h ⊢
 split at h
 ·split at h
  ·rename_i vs iU
   split at h
   ·rename_i h1; simp only[iU,hb _ _ _ _ h1]; exact h
   ·rename_i h1; simp only[iU,hb _ _ _ _ h1]; exact h
   ·simp at h
  ·simp at h
 ·split at h
  ·rename_i hf vs
   split at h
   ·rename_i h1; simp only[hf,vs,hb _ _ _ _ h1]; exact h
   ·rename_i h1; simp only[hf,vs,hb _ _ _ _ h1]; exact h
   ·simp at h
  ·simp at h
 ·simp at h
 ·simp at h
 ·simp only[ab] at h ⊢
  obtain⟨a,h1,h2⟩:=h
  exact⟨a,Ox hc h1,h2⟩
theorem DH {cf cf':yt} {ob ob':Aa} (hc:DG cf cf') (hb:GM ob ob'):∀{os:List PO} {j:Nat} {st:St} {r},zU cf ob j os st=some r→zU cf' ob' j os st=some r
 | [],_,_,_,h=>h
 | o :: os, j, st, r, h => by
   simp only[zU] at h ⊢
   split at h
   ·rename_i h1
    rw[OA hc hb h1]
    exact DH hc hb h
   ·rename_i dh
    rw[OA hc hb h]
    split
    ·rename_i h1
     simp only[aa] at h1
     subst h1
     exact absurd h (dh _)
    ·rfl
section
variable {L:Nat→Option PFunc}
theorem BT:∀(n:Nat) (c:PC) (st:St) (r),yr L n c st=some r→yr L (n+1) c st=some r
 | 0,c,st,r,h=>by simp[yr] at h
 | n + 1, c, st, r, h => by
   have dO:DG (zT (yr L n) L) (zT (yr L (n+1)) L):=Oy (BT n) L
   have dU:GM (Ae (yr L n) L) (Ae (yr L (n+1)) L):=Oz (BT n) L
   rw[yr.eq_def] at h ⊢
   cases c with
   | skip=>exact h
   | exit id=>exact h
   | ret=>exact h
   | region ops =>
     simp only[ab] at h ⊢
     obtain⟨a,h1,h2⟩:=h
     exact⟨a,GL dO h1,h2⟩
   | branch ops x a b =>
     try simp only at h
     try simp only
     split at h
     ·rename_i h1
      rw[GL dO h1]
      simp only
      split at h
      ·rename_i h2
       exact BT n _ _ _ h
      ·simp at h
     ·simp at h
   | seq a b =>
     try simp only at h
     try simp only
     split at h
     ·rename_i h1
      rw[BT n _ _ _ h1]
      exact BT n _ _ _ h
     ·simp at h
     ·rename_i dh ge
      rw[BT n _ _ _ h]
      split
      ·rename_i h1; cases h1; exact absurd h (dh _)
      ·rename_i h1; cases h1; exact absurd h (ge _ _ _ _)
      ·rfl
   | block id c =>
     try simp only at h
     try simp only
     split at h
     ·rename_i h1
      rw[BT n _ _ _ h1]; exact h
     ·simp at h
     ·rename_i dh ge
      rw[BT n _ _ _ h]
      split
      ·rename_i h1; cases h1; exact absurd h (dh _ _)
      ·rename_i h1; cases h1; exact absurd h (ge _ _ _ _)
      ·rfl
   | loop c =>
     try simp only at h
     try simp only
     split at h
     ·rename_i h1
      rw[BT n _ _ _ h1]
      exact BT n _ _ _ h
     ·simp at h
     ·rename_i dh ge
      rw[BT n _ _ _ h]
      split
      ·rename_i h1; cases h1; exact absurd h (dh _)
      ·rename_i h1; cases h1; exact absurd h (ge _ _ _ _)
      ·rfl
   | bregion ops =>
     try simp only at h
     try simp only
     split at h
     ·rename_i h1; rw[DH dO dU h1]; exact h
     ·rename_i h1; rw[DH dO dU h1]; exact h
     ·simp at h
   | bbranch ops x a b =>
     try simp only at h
     try simp only
     split at h
     ·rename_i h1
      rw[DH dO dU h1]
      simp only
      split at h
      ·exact BT n _ _ _ h
      ·simp at h
     ·rename_i h1; rw[DH dO dU h1]; exact h
     ·simp at h
   | raise ops t x =>
     try simp only at h
     try simp only
     split at h
     ·rename_i h1; rw[GL dO h1]; exact h
     ·simp at h
   | rangeF x kb caps =>
     try simp only at h
     try simp only
     split at h
     ·rename_i hf d9
      try simp only[hf,d9]
      split at h
      ·simp at h
      ·rename_i hn
       rw[ae hn]
       split at h
       ·rename_i h1; rw[dU _ _ _ _ h1]; exact h
       ·rename_i h1; rw[dU _ _ _ _ h1]; exact h
       ·simp at h
     ·simp at h
   | round a b=>simp at h
   | guarded kd caps c =>
     try simp only at h
     try simp only
     split at h
     ·simp at h
     ·rename_i hn
      rw[ae hn]
      split at h
      ·rename_i d9
       split at h
       ·rename_i h1; rw[BT n _ _ _ h1]; exact h
       ·rename_i h1; rw[BT n _ _ _ h1]; exact h
       ·rename_i h1; rw[BT n _ _ _ h1]; exact h
       ·simp at h
      ·simp at h
theorem Dj {n m:Nat} (iL:n≤m) {c:PC} {st:St} {r} (h:yr L n c st=some r):yr L m c st=some r:=by
 induction iL with
 | refl=>exact h
 | step _ ih=>exact BT _ _ _ _ ih
theorem Fc {n m:Nat} (iL:n≤m):DG (call L n) (call L m):=Oy (λ_ _ _ h=>Dj iL h) L
open Classical in
noncomputable def evL (L:Nat→Option PFunc) (c:PC) (st:St):Option (PExit×St):=
 if h:∃r,∃n,yr L n c st=some r then some h.choose else none
open Classical in
noncomputable def ym (L:Nat→Option PFunc):yt:=λk args hp=>
 if h:∃r,∃n,call L n k args hp=some r then some h.choose else none
theorem zq {c:PC} {st:St} {r}:evL L c st=some r↔∃n,yr L n c st=some r:=by
 unfold evL
 split
 ·rename_i h
  obtain⟨n,hn⟩:=h.choose_spec
  constructor
  ·intro e; cases e; exact⟨n,hn⟩
  ·rintro⟨m,hm⟩
   have h1:=Dj (bA n m) hn
   have h2:=Dj (bH n m) hm
   rw[h1] at h2; exact h2
 ·rename_i h
  constructor
  ·intro e; cases e
  ·rintro⟨m,hm⟩; exact absurd ⟨r,m,hm⟩ h
theorem Cx {k:Nat} {args:List PV} {hp:List PObj} {r}:ym L k args hp=some r↔∃n,call L n k args hp=some r:=by
 unfold ym
 split
 ·rename_i h
  obtain⟨n,hn⟩:=h.choose_spec
  constructor
  ·intro e; cases e; exact⟨n,hn⟩
  ·rintro⟨m,hm⟩
   have h1:=Fc (bA n m) _ _ _ _ hn
   have h2:=Fc (bH n m) _ _ _ _ hm
   rw[h1] at h2; exact h2
 ·rename_i h
  constructor
  ·intro e; cases e
  ·rintro⟨m,hm⟩; exact absurd ⟨r,m,hm⟩ h
theorem FQ (n:Nat):DG (call L n) (ym L):=λ_ _ _ _ h=>Cx.2 ⟨n,h⟩
theorem IK {n m:Nat} (iL:n≤m):GM (Ae (yr L n) L) (Ae (yr L m) L):=Oz (λ_ _ _ h=>Dj iL h) L
open Classical in
noncomputable def yI (L:Nat→Option PFunc):Aa:=λk args hp=>
 if h:∃r,∃n,Ae (yr L n) L k args hp=some r then some h.choose else none
theorem EE {k:Nat} {args:List PV} {hp:List PObj} {r}:yI L k args hp=some r↔∃n,Ae (yr L n) L k args hp=some r:=by
 unfold yI
 split
 ·rename_i h
  obtain⟨n,hn⟩:=h.choose_spec
  constructor
  ·intro e; cases e; exact⟨n,hn⟩
  ·rintro⟨m,hm⟩
   have h1:=IK (bA n m) _ _ _ _ hn
   have h2:=IK (bH n m) _ _ _ _ hm
   rw[h1] at h2; exact h2
 ·rename_i h
  constructor
  ·intro e; cases e
  ·rintro⟨m,hm⟩; exact absurd ⟨r,m,hm⟩ h
theorem Ks (n:Nat):GM (Ae (yr L n) L) (yI L):=λ_ _ _ _ h=>EE.2 ⟨n,h⟩
theorem c4J {o:HOp} {st:St} {r} (h:yo (ym L) o st=some r):∃n,yo (call L n) o st=some r:=by
 cases o<;>try exact⟨0,h⟩
 case call k args=>
  simp only[yo,aj,ab] at h ⊢
  obtain⟨vs,h1,q,h2,h3⟩:=h
  obtain⟨n,hn⟩:=Cx.1 h2
  exact⟨n,vs,h1,q,hn,h3⟩
 case zcall k args=>
  simp only[yo,aj] at h ⊢
  obtain⟨vs,h1,h⟩:=h
  split at h
  ·rename_i hw
   simp only[aj] at h
   obtain⟨q,h4,h5⟩:=h
   obtain⟨n,hn⟩:=Cx.1 h4
   exact⟨n,vs,h1,by rw[af hw,hn]; exact h5⟩
  ·simp at h
 case rcall k args=>
  simp only[yo,aj] at h ⊢
  obtain⟨vs,h1,q,h2,h3⟩:=h
  obtain⟨n,hn⟩:=Cx.1 h2
  exact⟨n,vs,h1,q,hn,h3⟩
 case icall tab x args=>
  simp only[yo,aj,ab] at h ⊢
  obtain⟨m,h0,vs,h1,q,h2,h3⟩:=h
  obtain⟨n,hn⟩:=Cx.1 h2
  exact⟨n,m,h0,vs,h1,q,hn,h3⟩
 case callv x args=>
  simp only[yo] at h ⊢
  split at h
  ·simp only[ab] at h ⊢
   obtain⟨q,h2,h3⟩:=h
   obtain⟨n,hn⟩:=Cx.1 h2
   exact⟨n,q,hn,h3⟩
  ·simp at h
theorem TM {o:POp} {st:St} {r} (h:opv (ym L) o st=some r):∃n,opv (call L n) o st=some r:=by
 cases o<;>try exact⟨0,h⟩
 case h o=>exact c4J h
 case pcall k args=>
  simp only[opv] at h ⊢
  split at h
  ·split at h
   ·rename_i hr
    simp only[hr,if_true]
    split at h
    ·rename_i hx
     obtain⟨n,hn⟩:=Cx.1 hx
     exact⟨n,by rw[hn]; exact h⟩
    ·simp at h
   ·simp at h
  ·simp at h
 case pzcall k args=>
  simp only[opv] at h ⊢
  split at h
  ·split at h
   ·rename_i hr
    simp only[hr,if_true]
    split at h
    ·rename_i hx
     obtain⟨n,hn⟩:=Cx.1 hx
     exact⟨n,by rw[hn]; exact h⟩
    ·simp at h
   ·simp at h
  ·simp at h
 case pcallx k args own=>
  simp only[opv] at h ⊢
  cases own with
  | none =>
    simp only at h ⊢
    split at h
    ·split at h
     ·rename_i hr
      simp only[hr,if_true]
      split at h
      ·rename_i hx
       obtain⟨n,hn⟩:=Cx.1 hx
       exact⟨n,by rw[hn]; exact h⟩
      ·simp at h
     ·simp at h
    ·simp at h
  | some i =>
    simp only at h ⊢
    split at h
    ·split at h
     ·rename_i hr
      split at h
      ·rename_i hx
       obtain⟨n,hn⟩:=Cx.1 hx
       exact⟨n,by rw[af hr,hn]; exact h⟩
      ·simp at h
     ·simp at h
    ·simp at h
 case callv x args=>
  simp only[opv] at h ⊢
  split at h
  ·split at h
   ·rename_i hr
    simp only[hr,if_true]
    split at h
    ·rename_i hx
     obtain⟨n,hn⟩:=Cx.1 hx
     exact⟨n,by rw[hn]; exact h⟩
    ·simp at h
   ·simp at h
  ·simp at h
theorem TN {j:Nat} {o:PO} {st:St} {r} (h:zm (ym L) j o st=some r):∃n,zm (call L n) j o st=some r:=by
 simp only[zm] at h ⊢
 split at h
 ·simp only[ab] at h ⊢
  obtain⟨a,h1,h2⟩:=h
  obtain⟨n,hn⟩:=TM h1
  exact⟨n,a,hn,h2⟩
 ·split at h
  ·split at h
   ·rename_i hb
    simp only[af hb,ab] at h ⊢
    obtain⟨a,h1,h2⟩:=h
    obtain⟨n,hn⟩:=TM h1
    exact⟨n,a,hn,h2⟩
   ·rename_i hb
    simp only[ae hb]; exact⟨0,h⟩
  ·exact⟨0,h⟩
  ·simp at h
theorem Kt:∀{os:List PO} {j:Nat} {st:St} {r},AO (ym L) j os st=some r→∃n,AO (call L n) j os st=some r
 | [],_,_,_,h=>⟨0,h⟩
 | o :: os, j, st, r, h => by
   simp only[AO,aj] at h ⊢
   obtain⟨a,h1,h2⟩:=h
   obtain⟨n,hn⟩:=TN h1
   obtain⟨m,hm⟩:=Kt h2
   exact⟨max n m,a,Ox (Fc (bA ..)) hn,Kr (Fc (bH ..)) hm⟩
theorem TO {j:Nat} {o:PO} {st:St} {r} (h:Az (ym L) (yI L) j o st=some r):∃n,Az (call L n) (Ae (yr L n) L) j o st=some r:=by
 unfold Az at h ⊢
 split at h
 ·split at h
  ·rename_i vs iU
   split at h
   ·rename_i h1
    obtain⟨n,hn⟩:=EE.1 h1
    exact⟨n,by simp only[iU,hn]; exact h⟩
   ·rename_i h1
    obtain⟨n,hn⟩:=EE.1 h1
    exact⟨n,by simp only[iU,hn]; exact h⟩
   ·simp at h
  ·simp at h
 ·split at h
  ·rename_i hf vs
   split at h
   ·rename_i h1
    obtain⟨n,hn⟩:=EE.1 h1
    exact⟨n,by simp only[hf,vs,hn]; exact h⟩
   ·rename_i h1
    obtain⟨n,hn⟩:=EE.1 h1
    exact⟨n,by simp only[hf,vs,hn]; exact h⟩
   ·simp at h
  ·simp at h
 ·simp at h
 ·simp at h
 ·simp only[ab] at h ⊢
  obtain⟨a,h1,h2⟩:=h
  obtain⟨n,hn⟩:=TN h1
  exact⟨n,a,hn,h2⟩
theorem IL:∀{os:List PO} {j:Nat} {st:St} {r},zU (ym L) (yI L) j os st=some r→∃n,zU (call L n) (Ae (yr L n) L) j os st=some r
 | [],_,_,_,h=>⟨0,h⟩
 | o :: os, j, st, r, h => by
   simp only[zU] at h ⊢
   split at h
   ·rename_i h1
    obtain⟨n,hn⟩:=TO h1
    obtain⟨m,hm⟩:=IL h
    refine⟨max n m,?_⟩
    rw[OA (Fc (bA n m)) (IK (bA n m)) hn]
    exact DH (Fc (bH n m)) (IK (bH n m)) hm
   ·rename_i dh
    obtain⟨n,hn⟩:=TO h
    refine⟨n,?_⟩
    rw[hn]
    split
    ·rename_i h1
     simp only[aa] at h1
     subst h1
     exact absurd h (dh _)
    ·rfl
theorem Di {α:Type} {a b:Option α} (h:∀r,a=some r↔b=some r):a=b:=by
 cases a with
 | some x=>exact((h x).1 rfl).symm
 | none => cases b with
   | none=>rfl
   | some y=>exact(h y).2 rfl
theorem Ea {c:PC} {st:St} {r}:evL L c st=some r↔∃n,yr L (n+1) c st=some r:=by
 rw[zq]
 exact⟨fun⟨n,hn⟩=>⟨n,BT n _ _ _ hn⟩,fun⟨n,hn⟩=>⟨n+1,hn⟩⟩
@[simp] theorem c4K {st:St}:evL L .skip st=some (.normal,st):=zq.2 ⟨1,rfl⟩
@[simp] theorem c4L {id:Nat} {st:St}:evL L (.exit id) st=some (.exit id,st):=zq.2 ⟨1,rfl⟩
@[simp] theorem c7I {st:St}:evL L .ret st=some (.ret,st):=zq.2 ⟨1,rfl⟩
theorem c1d {ops:List PO} {st:St}:evL L (.region ops) st=(AG (ym L) ops st).map λst=>(.normal,zy st):=by
 refine Di λr =>?_
 rw[Ea]
 simp only[yr,ab]
 constructor
 ·rintro⟨n,a,h,e⟩; exact⟨a,GL (FQ n) h,e⟩
 ·rintro⟨a,h,e⟩
  obtain⟨n,hn⟩:=Kt h
  exact⟨n,a,hn,e⟩
theorem c1e {ops:List PO} {x:PX} {a b:PC} {st:St}:evL L (.branch ops x a b) st =
  (AG (ym L) ops st).bind λst=>match rd st x with | some (.bool t)=>evL L (if t then a else b) (zy st) | _=>none:=by
 refine Di λr =>?_
 rw[Ea]
 simp only[yr,aj]
 constructor
 ·rintro⟨n,h⟩
  split at h
  ·rename_i s1 h1
   refine⟨s1,GL (FQ n) h1,?_⟩
   split at h
   ·rename_i t h2; simp only[h2]; exact zq.2 ⟨n,h⟩
   ·simp at h
  ·simp at h
 ·rintro⟨s1,h1,h2⟩
  obtain⟨n,hn⟩:=Kt h1
  split at h2
  ·rename_i t h3
   obtain⟨m,hm⟩:=zq.1 h2
   refine⟨max n m,?_⟩
   rw[show AG (zT (yr L (max n m)) L) ops st=some s1 from Kr (Fc (bA ..)) hn]
   simp only[h3]
   exact Dj (bH ..) hm
  ·simp at h2
@[simp] theorem c7J {a b:PC} {st:St}:evL L (.seq a b) st=match evL L a st with | some (.normal,st)=>evL L b st | some (.after _ _ _,_)=>none | r=>r:=by
 refine Di λr =>?_
 rw[Ea]
 simp only[yr]
 constructor
 ·rintro⟨n,h⟩
  split at h
  ·rename_i s1 h1; rw[zq.2 ⟨n,h1⟩]; exact zq.2 ⟨n,h⟩
  ·simp at h
  ·rename_i dh ge
   rw[zq.2 ⟨n,h⟩]
   split
   ·rename_i h1; cases h1; exact absurd h (dh _)
   ·rename_i h1; cases h1; exact absurd h (ge _ _ _ _)
   ·rfl
 ·intro h
  split at h
  ·rename_i s1 h1
   obtain⟨n,hn⟩:=zq.1 h1
   obtain⟨m,hm⟩:=zq.1 h
   refine⟨max n m,?_⟩
   rw[Dj (bA ..) hn]
   exact Dj (bH ..) hm
  ·simp at h
  ·rename_i dh ge
   obtain⟨n,hn⟩:=zq.1 h
   refine⟨n,?_⟩
   rw[hn]
   split
   ·rename_i h1; cases h1; exact absurd h (dh _)
   ·rename_i h1; cases h1; exact absurd h (ge _ _ _ _)
   ·rfl
theorem c4M {c:PC} {st:St}:evL L (.loop c) st=match evL L c st with | some (.normal,st)=>evL L (.loop c) st | some (.after _ _ _,_)=>none | r=>r:=by
 refine Di λr =>?_
 rw[Ea]
 simp only[yr]
 constructor
 ·rintro⟨n,h⟩
  split at h
  ·rename_i s1 h1; rw[zq.2 ⟨n,h1⟩]; exact zq.2 ⟨n,h⟩
  ·simp at h
  ·rename_i dh ge
   rw[zq.2 ⟨n,h⟩]
   split
   ·rename_i h1; cases h1; exact absurd h (dh _)
   ·rename_i h1; cases h1; exact absurd h (ge _ _ _ _)
   ·rfl
 ·intro h
  split at h
  ·rename_i s1 h1
   obtain⟨n,hn⟩:=zq.1 h1
   obtain⟨m,hm⟩:=zq.1 h
   refine⟨max n m,?_⟩
   rw[Dj (bA ..) hn]
   exact Dj (bH ..) hm
  ·simp at h
  ·rename_i dh ge
   obtain⟨n,hn⟩:=zq.1 h
   refine⟨n,?_⟩
   rw[hn]
   split
   ·rename_i h1; cases h1; exact absurd h (dh _)
   ·rename_i h1; cases h1; exact absurd h (ge _ _ _ _)
   ·rfl
@[simp] theorem c23 {id:Nat} {c:PC} {st:St}:evL L (.block id c) st=match evL L c st with | some (.exit i,st)=>if i=id then some (.normal,st) else some (.exit i,st) | some (.after _ _ _,_)=>none | r=>r:=by
 refine Di λr =>?_
 rw[Ea]
 simp only[yr]
 constructor
 ·rintro⟨n,h⟩
  split at h
  ·rename_i h1; rw[zq.2 ⟨n,h1⟩]; exact h
  ·simp at h
  ·rename_i dh ge
   rw[zq.2 ⟨n,h⟩]
   split
   ·rename_i h1; cases h1; exact absurd h (dh _ _)
   ·rename_i h1; cases h1; exact absurd h (ge _ _ _ _)
   ·rfl
 ·intro h
  split at h
  ·rename_i h1
   obtain⟨n,hn⟩:=zq.1 h1
   exact⟨n,by rw[hn]; exact h⟩
  ·simp at h
  ·rename_i dh ge
   obtain⟨n,hn⟩:=zq.1 h
   refine⟨n,?_⟩
   rw[hn]
   split
   ·rename_i h1; cases h1; exact absurd h (dh _ _)
   ·rename_i h1; cases h1; exact absurd h (ge _ _ _ _)
   ·rfl
theorem b83 {ops:List PO} {st:St}:evL L (.bregion ops) st=match zU (ym L) (yI L) 0 ops (CK ops.length st) with
  | some (none,st)=>some (.normal,zy st)
  | some (some v,st)=>some (.boom v,zy st)
  | none=>none:=by
 refine Di λr =>?_
 rw[Ea]
 simp only[yr]
 constructor
 ·rintro⟨n,h⟩
  split at h
  ·rename_i h1; rw[DH (FQ n) (Ks n) h1]; exact h
  ·rename_i h1; rw[DH (FQ n) (Ks n) h1]; exact h
  ·simp at h
 ·intro h
  split at h
  ·rename_i h1
   obtain⟨n,hn⟩:=IL h1
   exact⟨n,by simp only[call] at hn; rw[hn]; exact h⟩
  ·rename_i h1
   obtain⟨n,hn⟩:=IL h1
   exact⟨n,by simp only[call] at hn; rw[hn]; exact h⟩
  ·simp at h
theorem b84 {ops:List PO} {x:PX} {a b:PC} {st:St}:evL L (.bbranch ops x a b) st=match zU (ym L) (yI L) 0 ops (CK ops.length st) with
  | some (none,st)=>(match rd st x with | some (.bool t)=>evL L (if t then a else b) (zy st) | _=>none)
  | some (some v,st)=>some (.boom v,zy st)
  | none=>none:=by
 refine Di λr =>?_
 rw[Ea]
 simp only[yr]
 constructor
 ·rintro⟨n,h⟩
  split at h
  ·rename_i h1
   rw[DH (FQ n) (Ks n) h1]
   simp only
   split at h
   ·rename_i t h2
    rw[h2]
    exact zq.2 ⟨n,h⟩
   ·simp at h
  ·rename_i h1; rw[DH (FQ n) (Ks n) h1]; exact h
  ·simp at h
 ·intro h
  split at h
  ·rename_i h1
   obtain⟨n,hn⟩:=IL h1
   split at h
   ·rename_i t h2
    obtain⟨m,hm⟩:=zq.1 h
    refine⟨max n m,?_⟩
    have:=DH (Fc (bA n m)) (IK (bA n m)) hn
    simp only[call] at this
    rw[this]
    simp only[h2]
    exact Dj (bH ..) hm
   ·simp at h
  ·rename_i h1
   obtain⟨n,hn⟩:=IL h1
   exact⟨n,by simp only[call] at hn; rw[hn]; exact h⟩
  ·simp at h
theorem c24 {ops:List PO} {t:Nat} {x:PX} {st:St}:evL L (.raise ops t x) st=match AG (ym L) ops st with
  | some st=>(match rd st x with | some p=>some (.boom (.iface t p),zy st) | none=>none)
  | none=>none:=by
 refine Di λr =>?_
 rw[Ea]
 simp only[yr]
 constructor
 ·rintro⟨n,h⟩
  split at h
  ·rename_i st1 h1
   rw[GL (FQ n) h1]
   simp only
   cases hr:rd st1 x with
   | none=>rw[hr] at h; simp at h
   | some p=>rw[hr] at h; exact h
  ·simp at h
 ·intro h
  split at h
  ·rename_i st1 h1
   obtain⟨n,hn⟩:=Kt h1
   refine⟨n,?_⟩
   rw[show AG (zT (yr L n) L) ops st=some st1 from hn]
   simp only
   cases hr:rd st1 x with
   | none=>rw[hr] at h; simp at h
   | some p=>rw[hr] at h; exact h
  ·simp at h
theorem b85 {kd:Nat} {caps:List PX} {c:PC} {st:St} (hn:c.NR=true):evL L (.guarded kd caps c) st=match rdAll st caps with
  | some cs => (match evL L c st with
    | some (.normal,st)=>some (.after kd cs none,st)
    | some (.ret,st)=>some (.after kd cs none,st)
    | some (.boom v,st)=>some (.after kd cs (some v),st)
    | _=>none)
  | none=>none:=by
 refine Di λr =>?_
 rw[Ea]
 simp only[yr,hn,Bool.true_eq_false,if_false]
 constructor
 ·rintro⟨n,h⟩
  split at h
  ·rename_i d9
   simp only[d9]
   split at h
   ·rename_i h1; rw[zq.2 ⟨n,h1⟩]; exact h
   ·rename_i h1; rw[zq.2 ⟨n,h1⟩]; exact h
   ·rename_i h1; rw[zq.2 ⟨n,h1⟩]; exact h
   ·simp at h
  ·simp at h
 ·intro h
  split at h
  ·rename_i d9
   simp only[d9]
   split at h
   ·rename_i h1
    obtain⟨n,hn⟩:=zq.1 h1
    exact⟨n,by rw[hn]; exact h⟩
   ·rename_i h1
    obtain⟨n,hn⟩:=zq.1 h1
    exact⟨n,by rw[hn]; exact h⟩
   ·rename_i h1
    obtain⟨n,hn⟩:=zq.1 h1
    exact⟨n,by rw[hn]; exact h⟩
   ·simp at h
  ·simp at h
theorem b7x {nv:Nat} {a b:PC} {args:List PV} {h:List PObj} {r} (hr:DN (evL L) nv a b args h=some r):∃n,DN (yr L n) nv a b args h=some r:=by
 unfold DN at hr ⊢
 split at hr
 ·split at hr
  ·rename_i h1 h2
   obtain⟨n,hn⟩:=zq.1 h2
   split at hr
   all_goals first
    | (rename_i h3 h4
       obtain⟨m,hm⟩:=zq.1 h4
       refine⟨max n m,?_⟩
       simp only[h1,Dj (bA n m) hn,h3,Dj (bH n m) hm]
       exact hr)
    | simp at hr
  ·simp at hr
 ·simp at hr
theorem TP {dfr} {f:PFunc} {args:List PV} {h:List PObj} {r} (hr:Bp (evL L) dfr f args h=some r):∃n,Bp (yr L n) dfr f args h=some r:=by
 unfold Bp at hr ⊢
 split at hr
 ·exact b7x hr
 ·split at hr
  ·rename_i h1
   obtain⟨n,hn⟩:=zq.1 h1
   exact⟨n,by rw[hn]; exact hr⟩
  ·rename_i h1
   obtain⟨n,hn⟩:=zq.1 h1
   exact⟨n,by rw[hn]; exact hr⟩
  ·rename_i h1
   obtain⟨n,hn⟩:=zq.1 h1
   exact⟨n,by rw[hn]; exact hr⟩
  ·rename_i h1
   obtain⟨n,hn⟩:=zq.1 h1
   exact⟨n,by rw[hn]; exact hr⟩
  ·simp at hr
theorem OB {dfr} {f:PFunc} {args:List PV} {h:List PObj} {r} (hr:BA (evL L) dfr f args h=some r):∃n,BA (yr L n) dfr f args h=some r:=by
 simp only[BA] at hr ⊢
 split at hr
 ·simp at hr
 ·rename_i hn
  rw[IH] at hr
  obtain⟨n,h⟩:=TP hr
  exact⟨n,by rw[ae hn,IH]; exact h⟩
theorem Ku {n m:Nat} (h:n≤m):∀(c:PC) (st:St) (r),yr L n c st=some r→yr L m c st=some r:=by
 intro c st r hr
 induction h with
 | refl=>exact hr
 | step _ ih=>exact BT _ _ _ _ ih
theorem OC {f:PFunc} {o:Option Nat} {args:List PV} {h:List PObj} {r} (hr:Bq (evL L) f o args h=some r):∃n,Bq (yr L n) f o args h=some r:=by
 unfold Bq at hr ⊢
 split at hr
 ·simp at hr
 ·rename_i hn
  split at hr
  ·rename_i h1
   obtain⟨n,ig⟩:=zq.1 h1
   exact⟨n,by rw[ae hn,ig]; exact hr⟩
  ·rename_i h1
   obtain⟨n,ig⟩:=zq.1 h1
   exact⟨n,by rw[ae hn,ig]; exact hr⟩
  ·simp at hr
theorem b86 {f:PFunc} {args:List PV} {h:List PObj} {r} (hr:CL (evL L) f args h=some r):∃n,CL (yr L n) f args h=some r:=by
 unfold CL at hr ⊢
 split at hr
 ·split at hr
  ·rename_i hd
   try simp only[hd]
   split at hr
   ·rename_i hl
    simp only[af hl]
    split at hr
    ·rename_i hs
     rw[DD] at hr
     obtain⟨n,hn⟩:=OC hr.1
     obtain⟨m,hm⟩:=OC hr.2
     refine⟨max n m,?_⟩
     rw[af hs,DD]
     exact⟨IJ (Ku (bA ..)) hn,IJ (Ku (bH ..)) hm⟩
    ·rename_i hs
     obtain⟨n,hn⟩:=OC hr
     exact⟨n,by rw[ae hs]; exact hn⟩
   ·simp at hr
  ·simp at hr
 ·simp at hr
theorem IM {k:Nat} {args:List PV} {hp:List PObj}:ym L k args hp=zT (evL L) L k args hp:=by
 refine Di λr =>?_
 rw[Cx]
 simp only[call,zT]
 constructor
 ·rintro⟨n,h⟩
  exact Oy (ex:=yr L n) (λc st r h=>zq.2 ⟨n,h⟩) L k args hp r h
 ·intro h
  split at h
  ·simp at h
  ·rename_i f hf
   split at h
   ·rename_i hl
    simp only[af hl]
    split at h
    ·exact⟨0,h⟩
    split at h
    ·rename_i hs
     rw[DD] at h
     obtain⟨n,hn⟩:=OB h.1
     obtain⟨m,hm⟩:=OB h.2
     refine⟨max n m,?_⟩
     rw[af hs,DD]
     exact⟨II (Ku (bA ..)) hn,II (Ku (bH ..)) hm⟩
    ·rename_i hs
     obtain⟨n,hn⟩:=OB h
     exact⟨n,by rw[ae hs]; exact hn⟩
   ·rename_i hl
    obtain⟨n,hn⟩:=b86 h
    exact⟨n,by rw[ae hl]; exact hn⟩
theorem c7K {k:Nat} {args:List PV} {hp:List PObj}:yI L k args hp=Ae (evL L) L k args hp:=by
 refine Di λr =>?_
 rw[EE]
 constructor
 ·rintro⟨n,h⟩
  exact Oz (ex:=yr L n) (λc st r h=>zq.2 ⟨n,h⟩) L k args hp r h
 ·intro h
  simp only[Ae] at h ⊢
  split at h
  ·simp at h
  ·rename_i f hf
   split at h
   ·rename_i hl
    simp only[af hl]
    split at h
    ·exact⟨0,h⟩
    ·exact TP h
   ·simp at h
theorem c4N {k:Nat} {f:PFunc} {args:List PV} {hp:List PObj} (hf:L k=some f) (hl:args.length=f.params) {r:PV×List PObj}
  (he:Bp (evL L) (Ay L) f args hp=some (.val r.1,r.2)) (hs:f.split=false:=by rfl) (gm:f.prim=none:=by rfl) (hr:f.code.isRound=false:=by rfl):
  ym L k args hp=some r:=by
 rw[IM,zT,hf]
 simp only[af hl,hs,gm,bP,aJ,if_false,BA,hr]
 rw[IH]; exact he
theorem Tq {k:Nat} {f:PFunc} {args:List PV} {hp:List PObj} (hf:L k=some f) (hl:args.length=f.params) {r:Out×List PObj}
  (he:Bp (evL L) (Ay L) f args hp=some r) (hs:f.split=false:=by rfl) (gm:f.prim=none:=by rfl):
  yI L k args hp=some r:=by
 rw[c7K,Ae,hf]
 simp only[hl,hs,gm,and_self,if_true]
 exact he
theorem b7y (own:Option Nat):G5 (GZ own)=own:=by cases own<;>simp[G5,GZ]
theorem SZ (own:Option Nat) (args:List PV):(BY own args).length=args.length+1002:=by simp only[BY,aB,ao,c6s]; omega
theorem S0 (ex:PC→St→Option (PExit×St)) (f:PFunc) (own:Option Nat) (args:List PV) (h:List PObj):CL ex f (BY own args) h =
  if args.length=f.params∧f.prim=none then
   if f.split&&vague (args.headD .dead) then EL (Bq ex f own (.nils::args.tail) h) (Bq ex f own (.void::args.tail) h)
   else Bq ex f own args h
  else none:=by
 have:(pad++GZ own::args).drop pad.length=GZ own::args:=List.drop_left' rfl
 unfold CL BY
 simp only
 rw[this]
 simp only[b7y]
theorem c26 {k:Nat} {f:PFunc} {own:Option Nat} {args:List PV} {hp:List PObj} (hf:L k=some f) (hl:args.length=f.params) {r:PV×List PObj}
  (he:Bq (evL L) f own args hp=some r) (hs:f.split=false:=by rfl) (gm:f.prim=none:=by rfl) (gW:f.params<1000:=by decide):ym L k (BY own args) hp=some r:=by
 rw[IM,zT,hf]
 have:¬(BY own args).length=f.params:=by rw[SZ]; omega
 simp only[ae this,S0,hl,gm,and_self,if_true,hs,bP,aJ,if_false]
 exact he
end
end PI
