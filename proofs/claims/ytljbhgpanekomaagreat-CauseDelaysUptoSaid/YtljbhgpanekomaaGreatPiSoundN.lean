import Derived.Test.YtljbhgpanekomaaGreatPiSound8
import Derived.Laws.MakeOwn
import Derived.Laws.RangeString
set_option maxRecDepth 100000
set_option linter.unusedSimpArgs false
set_option linter.unusedVariables false
set_option linter.unusedSectionVars false
namespace PI
open Go
section
variable {E:Env} {N:Nm} {w:World} {G:GS} {st:St} {a:Act} {vs:List Tmp} {ops:List Oper} {P:Program}
variable {o:Oper} {j:Nat} {next:Act→World→Prop} {Q:Exit→Act→World→Prop} {u:PV} {st1:St}
theorem ID {α:Type} (l:List α):∀(n k:Nat),(List.replicate n l).flatten[k]? = if k<n*l.length then l[k % l.length]? else none
 | 0,k=>by simp
 | n + 1, k => by
   have ih:=ID l n (k - l.length)
   have e:(n+1)*l.length=n*l.length+l.length:=Nat.succ_mul _ _
   rw[List.replicate_succ,List.flatten_cons,List.getElem?_append,ih,e]
   by_cases hk:k<l.length
   ·have:k<n*l.length+l.length:=by omega
    simp only[hk,this,Nat.mod_eq_of_lt hk,if_true]
   ·have hm:(k - l.length) % l.length=k % l.length:=(Nat.mod_eq_sub_mod (by omega)).symm
    by_cases h2:k - l.length<n*l.length
    ·have:k<n*l.length+l.length:=by omega
     simp only[hk,h2,this,if_true,if_false,hm]
    ·have:¬k<n*l.length+l.length:=by omega
     simp only[hk,h2,this,if_false]
theorem RA {x y:Operand} (h:F4 x y=true) {k:IntKind} {n:Int} (hx:a.eval x = .int k n):∃k',a.eval y = .int k' n:=by
 unfold F4 at h
 split at h
 ·simp at h; subst h; exact⟨k,hx⟩
 ·simp at h; subst h
  simp only[Act.eval] at hx ⊢
  cases hx
  exact⟨_,rfl⟩
 ·simp at h
theorem b9h (hE:EnvOk E N) (nm:Names vs (wh vs ops)) (ho:ops[j]? = some o) (hf:FI N w G st a vs (wh vs ops)) {t e:TypeId} {l c:Operand} {px:PX} {size:Nat} {z:List PV} (cP:o.op = .makeSlice t l c)
  (hu:P.underlying t=some (.slice e)) (hn:wI P e=some size) (hz:xE P e=some z) (dD:F4 l c=true) (hx:cx E vs ops l=some px) {cf:wm} (hs:wi cf (.mkarr size (wW P e) (P.bytesOf e) z px) st=some (u,st1)) (hk:wy N w G a st1 u vs ops j o next):o.wp P a w next Q:=by
 simp only[wi] at hs
 split at hs
 ·rename_i n eI
  split at hs
  ·rename_i hc
   obtain⟨h0,hb,hm⟩:=hc
   simp only[aa,ac] at hs
   obtain⟨rfl,rfl⟩:=hs
   obtain⟨k,hl⟩:=A9 hE hx hf eI
   obtain⟨k',mG⟩:=RA dD hl
   obtain⟨i,d,hi,gf,fK,hd⟩:=yD hn
   obtain⟨i2,zv,ed,iG,_,jF,fW,_⟩:=BL (N:=N) (w:=w) (fix:=G.fix) (hp:=G.heap) hz
   have:i2=i:=by rw[hi] at ed; simpa using ed.symm
   subst this
   subst gf
   have gC:zv.cells.size=i2.size:=by have:=fW.1; simp at this; omega
   have gz:P.bytesOf e=i2.bytes:=by simp[Program.bytesOf,hi]
   rw[gz] at hb
   have cQ:=run_make (P:=P) w t e i2 zv hu hi iG k k' n n h0 (Int.le_refl _) hb hm
   refine DO (mob := .cells (madeCells zv.cells (n.toNat*i2.size)) e) (v := .slice (some ⟨w.heap.size,0,none⟩) n.toNat n.toNat) nm ho hf ?_ ?_ (λG' hG cN=>Iz hf ?_ ?_ hG cN) hk
   ·simp[execOp,cP,hl,mG,cQ]
   ·rintro G' rfl
    refine .rowp _ _ _ _ w.heap.size _ (by simp[GS.more]) (ao _) ⟨e,n.toNat*i2.size,?_,ao _⟩
    simp only[World.shape?,AV,size_madeCells]
   ·intro k c x hc hx
    rw[ID] at hx
    have fD:z.length=i2.size:=by have:=fW.1; simp at this; omega
    rw[fD] at hx
    split at hx
    ·rename_i cS
     have ix:k % i2.size<i2.size:=bJ _ (by omega)
     have jt:c=zv.cells[k % i2.size]! := by
      simp only[madeCells,bU,ab] at hc
      obtain⟨a',ha,rfl⟩:=hc
      have:a'=k:=by
       obtain⟨h1,h2⟩:=aV.1 ha
       simpa using h2.symm
      rw[this,gC]
     have lZ:zv.cells[k % i2.size]? = some c:=by
      rw[jt]
      have:k % i2.size<zv.cells.size:=by omega
      simp[this]
     refine⟨fW.2.2 _ c x (by simpa using lZ) hx,fW.2.1 x (av hx),?_⟩
     rintro es rfl
     have ir:=hz
     unfold xE at ir
     simp only[hi,iG,ae] at ir
     obtain⟨cs',dW,ir⟩:=ir
     split at ir
     ·simp at ir; subst ir
      exact EG dW _ c es (by simpa using lZ) hx
     ·simp at ir
    ·simp at hx
   ·have fD:z.length=i2.size:=by have:=fW.1; simp at this; omega
    rw[size_madeCells]
    simp[List.length_flatten,fD]
  ·simp at hs
 ·simp at hs
theorem b7Y (hE:EnvOk E N) (hP:E.P=P) (nm:Names vs (wh vs ops)) (ho:ops[j]? = some o) (hf:FI N w G st a vs (wh vs ops)) {t:TypeId} (cP:o.op = .alloc t) (hb:E.bT=some t) {cf:wm}
  (hs:wi cf .newbld st=some (u,st1)) (hk:wy N w G a st1 u vs ops j o next):o.wp P a w next Q:=by
 simp only[wi,aa,ac] at hs
 obtain⟨rfl,rfl⟩:=hs
 obtain⟨h1,i,h2,h3⟩:=hE.bt t hb
 rw[hP] at h2
 refine DO (mob := .cells #[.pointer none,.slice none 0 0] t) (v := .pointer (some ⟨w.heap.size,0,none⟩)) nm ho hf ?_ ?_ (λG' hG cN =>?_) hk
 ·simp[execOp,cP,Instr.alloc,zeroValue,typeInfo,h2,h3,newVar,newRow,Value.cells]
 ·rintro G' rfl
  exact .ptr _ _ w.heap.size (by simp[GS.more])
 ·subst hG
  refine⟨?_,.pointer none,.slice none 0 0,by rw[h1]; exact AV,.inl rfl,.inl ⟨rfl,rfl⟩⟩
  intro o h
  have:=hf.fixlt _ _ h
  omega
theorem b9i (hE:EnvOk E N) (nm:Names vs (wh vs ops)) (ho:ops[j]? = some o) (hf:FI N w G st a vs (wh vs ops)) {t:TypeId} {x:Operand} {px:PX} (cP:o.op = .range t x)
  (hu:P.underlying t=some .string) (hx:cx E vs ops x=some px) {cf:wm} (hs:wi cf (.range px) st=some (u,st1)) (hk:wy N w G a st1 u vs ops j o next):o.wp P a w next Q:=by
 simp only[wi] at hs
 split at hs
 ·rename_i s hp
  simp only[aa,ac] at hs
  obtain⟨rfl,rfl⟩:=hs
  have h:=(wL hE hx hf hp).1
  generalize hv:a.eval x=v at h
  cases h with
  | str s =>
    refine DO (mob := .stringIter s 0) (v := .pointer (some ⟨w.heap.size,0,none⟩)) nm ho hf ?_ ?_ (λG' hG cN =>?_) hk
    ·have:=run_range_string (P:=P) w t s hu
     simp only[execOp,cP,hv,Sem.run_bind,Sem.run_map,this,Result.andThen_ok,Sem.run_pure]
     rfl
    ·rintro G' rfl
     exact .ptr _ _ w.heap.size (by simp[GS.more])
    ·subst hG
     refine⟨?_,s,AV,rfl⟩
     intro o h
     have:=hf.fixlt _ _ h
     omega
 ·simp at hs
theorem c5e (nm:Names vs (wh vs ops)) (ho:ops[j]? = some o) (hf:FI N w G st a vs (wh vs ops)) {n b:Nat} {ob ob':PObj} {mob:Obj} {v:Value} (dB:st.heap[n]? = some ob) (hb:G.heap n=some b) (how:G.ow b=some (.hobj n))
  (nE:∀o,¬G.fix b o) (cQ:(execOp a.eval o).run P w = .ok (.value v) { w with heap:=w.heap.setIfInBounds b mob }) (gx:w.shape? b=none∧yN w b=none)
  (hR:ObjR N { w with heap:=w.heap.setIfInBounds b mob } G n b ob')
  (hv:SR N { w with heap:=w.heap.setIfInBounds b mob } G (xU (wJ vs o.dst) j) v u)
  (hk:wy N w G a (wG st n ob') u vs ops j o next):o.wp P a w next Q:=by
 unfold Oper.wp
 rw[cQ]
 let w':World:={ w with heap:=w.heap.setIfInBounds b mob }
 have eE:b<w.heap.size:=hf.owlt _ _ how
 have cY:∀x,x≠b→w'.heap[x]? = w.heap[x]? := λx hx=>by
  simp only[w',be]; rw[af (by omega)]
 have cN:Ext w G w' G:=by
  refine⟨rfl,rfl,rfl,by simp[w'],λx _ jk=>cY x (by rintro rfl; rw[how] at jk; simp at jk),?_,λ_ _ h => .inl h,λ_ h => .inr h,λ_ _ h=>h,.one b (λk _ hk=>cY k hk) (λs hx=>by rw[gx.1] at hx; simp at hx) (λs hx=>by rw[gx.2] at hx; simp at hx),rfl⟩
  intro x o' fG
  have gc:x≠b:=by rintro rfl; exact nE _ fG
  refine⟨fG,?_⟩
  simp only[World.cell?,cY x gc]
 have cR:xa (λk=>k = .hobj n) w G w' G:=by
  refine⟨?_,λ_ _ h=>h⟩
  intro x k hx gH
  have gc:x≠b:=by rintro rfl; rw[how] at hx; simp at hx; exact gH hx.symm
  exact⟨hx,cY x gc,λ_ h=>h⟩
 have dj:FI N w' G (wG st n ob') a vs (wh vs ops):=by
  refine⟨hf.len,λi t' u' h1 h2=>(hf.var i t' u' h1 h2).keep cN cR (by simp) (by simp),λi t' u' h1 h2=>(hf.loc i t' u' h1 h2).keep cN cR (by simp) (by simp),hf.tv,hf.tl,hf.defers,hf.gen,?_,?_,?_,?_⟩
  ·intro b' k da; simpa[w'] using hf.owlt _ _ da
  ·intro b' k da; simpa[w'] using hf.fixlt _ _ da
  ·exact hf.heap.keepBut cN cR (λm k cZ=>⟨by simp; omega,by simp⟩) (λ_ => .inr ⟨b,hb,how,hR⟩)
  ·intro m b' h; have:=hf.hdom _ _ h; simpa[wG] using this
 exact hk _ w' G (dj.put nm (yY ho) hv) cN (yZ _ _ _)
theorem c1k (hE:EnvOk E N) (nm:Names vs (wh vs ops)) (ho:ops[j]? = some o) (hf:FI N w G st a vs (wh vs ops)) {x:Operand} {px:PX} (cP:o.op = .next x true)
  (hx:cx E vs ops x=some px) {cf:wm} (hs:wi cf (.next px) st=some (u,st1)) (hk:wy N w G a st1 u vs ops j o next):o.wp P a w next Q:=by
 simp only[wi] at hs
 split at hs
 ·rename_i n hp
  have h:=(wL hE hx hf hp).1
  split at hs
  ·rename_i s pos dB
   generalize hv:a.eval x=v at h
   cases h with
   | ptr _ _ b hb =>
     rcases hf.heap.1 n _ dB with e|⟨b',h1,h2,h3,s',h4,h5⟩
     ·simp at e
     have:b'=b:=by rw[hb] at h1; simpa using h1.symm
     subst this
     subst h5
     have cV:s'.data.toList.length=s'.size:=bb
     have jf:(⟨s'.data.toList.toArray⟩:ByteArray)=s':=by cases s'; simp
     rw[cV,jf] at hs
     have eE:b'<w.heap.size:=hf.owlt _ _ h2
     split at hs
     ·rename_i cS
      simp only[aa,ac] at hs
      obtain⟨rfl,rfl⟩:=hs
      refine c5e (ob' := .siter s'.data.toList (pos+(Utf8.decode s' pos).2)) (mob := .stringIter s' (pos+(Utf8.decode s' pos).2)) (v := .tuple #[.bool true,goInt pos,.int .i32 (Utf8.decode s' pos).1]) nm ho hf dB hb h2 h3 ?_ (by simp[World.shape?,yN,h4]) ⟨h3,s',?_,rfl⟩ (SR.of_pure ?_ rfl) hk
      ·simp[execOp,cP,hv,Instr.next,getObj,setObj,Sem.run,Result.andThen,h4,cS,goInt]
      ·simp[eE]
      ·refine .tuple _ _ rfl ?_
       intro i c p hc hp
       match i with
       | 0=>simp at hc hp; subst hc hp; exact .bool _
       | 1=>simp at hc hp; subst hc hp; exact .int _ _
       | 2=>simp at hc hp; subst hc hp; exact .int _ _
       | n+3=>simp at hc
     ·rename_i cS
      simp only[aa,ac] at hs
      obtain⟨rfl,rfl⟩:=hs
      refine wM (v := .tuple #[.bool false]) nm ho hf ?_ (SR.of_pure ?_ rfl) hk
      ·simp[execOp,cP,hv,Instr.next,getObj,Sem.run,Result.andThen,h4,cS]
      ·refine .tuple _ _ rfl ?_
       intro i c p hc hp
       match i with
       | 0=>simp at hc hp; subst hc hp; exact .bool _
       | n+1=>simp at hc
  ·simp at hs
 ·simp at hs
theorem c28 (hE:EnvOk E N) (nm:Names vs (wh vs ops)) (ho:ops[j]? = some o) (hf:FI N w G st a vs (wh vs ops)) {src dst e:TypeId} {x:Operand} {px:PX} (cP:o.op = .convert src dst x) (ea:wJ vs o.dst≠.n)
  (ei:P.underlying src=some .string) (hd:P.underlying dst=some (.slice e)) (he:P.underlying e=some (.int .u8)) (hx:cx E vs ops x=some px) {cf:wm} (hs:opv cf (.s2b px) st=some (u,st1)) (hk:wy N w G a st1 u vs ops j o next):o.wp P a w next Q:=by
 simp only[opv] at hs
 split at hs
 ·rename_i s hp
  split at hs
  ·rename_i cO
   simp only[aa,ac] at hs
   obtain⟨rfl,rfl⟩:=hs
   have h:=(wL hE hx hf hp).1
   generalize hv:a.eval x=v at h
   cases h with
   | str s =>
     have cV:s.data.toList.length=s.size:=bb
     have cQ:=Lib.run_convert_string_bytes (P:=P) w src dst e s ei hd he
     unfold Oper.wp
     have jo:(execOp a.eval o).run P w = .ok (.value (.slice (some ⟨w.heap.size,0,none⟩) s.size (grownCap w s.size 0 e))) (Lib.bytesWorld w e s):=by
      simp[execOp,cP,hv,cQ]
     rw[jo]
     have gx:s.size≤grownCap w s.size 0 e:=grownCap_ge w s.size 0 e
     let G':GS:={ G with fix:=λb o=>G.fix b o∨(b=w.heap.size∧o<s.size),ow:=λb=>if b=w.heap.size then some (xU (wJ vs o.dst) j) else G.ow b }
     have el:=Lib.bytesWorld_size w e s
     have cN:Ext w G (Lib.bytesWorld w e s) G':=by
      refine⟨?_,?_,?_,by omega,λb hb _=>Lib.bytesWorld_at_old w e s b hb,λb o h=>⟨.inl h,Lib.bytesWorld_old w e s ⟨b,o,none⟩ (hf.fixlt _ _ h)⟩,?_,?_,λ_ _ h=>h,.same λk hk=>Lib.bytesWorld_at_old w e s k hk,rfl⟩
      ·simp[Lib.bytesWorld,World.freeze,World.alloc,World.drew,-World.alloc_eq,-World.drew_eq]
      ·simp[Lib.bytesWorld,World.freeze,World.alloc,World.drew,-World.alloc_eq,-World.drew_eq]
      ·simp[Lib.bytesWorld,World.freeze,World.alloc,World.drew,-World.alloc_eq,-World.drew_eq]
      ·rintro b o (h|h)
       ·exact .inl h
       ·exact .inr (.inl (by omega))
      ·intro b hb
       simp only[G'] at hb
       split at hb
       ·exact .inl (by omega)
       ·exact .inr hb
     have cR:xa (λk=>k=xU (wJ vs o.dst) j) w G (Lib.bytesWorld w e s) G':=by
      refine⟨?_,λ_ _ h=>h⟩
      intro b k hb _
      have cS:=hf.owlt _ _ hb
      refine⟨?_,Lib.bytesWorld_at_old w e s b cS,?_⟩
      ·simp only[G']; rw[af (by omega)]; exact hb
      ·rintro o (h|h)
       ·exact h
       ·omega
     have hR:=Ri (N:=N) (w:=Lib.bytesWorld w e s) G'.fix G'.heap s
     have hl:(AI s.data.toList).length=s.size:=by rw[b84]; exact cV
     have sJ:∀b k,G'.ow b=some k→b<(Lib.bytesWorld w e s).heap.size:=by
      intro b k hb
      simp only[G'] at hb
      split at hb
      ·omega
      ·have:=hf.owlt _ _ hb; omega
     have sK:∀b o,G'.fix b o→b<(Lib.bytesWorld w e s).heap.size:=by
      rintro b o (h|h)
      ·have:=hf.fixlt _ _ h; omega
      ·omega
     have cW:∀own,VR N (Lib.bytesWorld w e s) G'.fix G'.heap (.slice (some ⟨w.heap.size,0,none⟩) s.size (grownCap w s.size 0 e)) (.list own (AI s.data.toList)):=by
      intro own
      have hm:=Iu (own:=own) (b:=w.heap.size) (off:=0) (cap:=grownCap w s.size 0 e) hR (by rw[hl]; exact gx) ?_
      ·rw[hl] at hm; exact hm
      ·intro k u' hu
       have hk:k<s.size:=by have:=(ai.1 hu).1; rw[byteCells_length] at this; exact this
       rw[aM]
       refine⟨?_,.inr ⟨rfl,hk⟩⟩
       rw[Lib.bytesWorld_cell w e s k hk]
       simp only[byteCells,az,ab] at hu
       obtain⟨b,hb,rfl⟩:=hu
       simp[List.getD,hb]
     refine hk _ _ G' (hf.extDst nm (yY ho) ea cN cR (λg b h=>hf.gen g b h) sJ sK rfl ?_) cN (yZ _ _ _)
     cases qf:s.data.toList.isEmpty with
     | true=>exact SR.of_pure (cW false) rfl
     | false =>
       refine⟨cW true,?_⟩
       have h0:0<s.size:=by
        rw[← cV]
        cases hx:s.data.toList with
        | nil=>rw[hx] at qf; simp at qf
        | cons=>simp
       refine .inr ⟨by simp[G'],1,Lib.bytesCells w e s,e,hR.sz,⟨_,Lib.bytesWorld_at_new w e s,λo ho h=>by simp at h; omega⟩,?_,h0,?_⟩
       ·have:s.data.size=s.size:=rfl
        simp only[Lib.bytesCells,bV,Array.size_map,cF]
        omega
       ·rintro o' eN (h|h)
        ·have:=hf.fixlt _ _ h; simp at this
        ·simp at eN; omega
  ·simp at hs
 ·simp at hs
theorem L8 {size:Nat}:∀{xs:List PV},(∀e∈xs,e.cells.length=size)→(xs.flatMap PV.cells).length=xs.length*size∧∀(i:Nat) (e:PV),xs[i]? = some e→∀k,k<size→(xs.flatMap PV.cells)[i*size+k]? = e.cells[k]?
 | [],_=>by simp
 | x :: xs, h => by
   obtain⟨h1,h2⟩:=L8 (xs:=xs) (λe he=>h e (bx _ he))
   have hx:=h x (b8 ..)
   refine⟨by simp only[aG,ap,h1,hx,aI,aQ,Nat.one_mul]; omega,?_⟩
   intro i e he k hk
   rw[aG]
   cases i with
   | zero =>
     simp at he; subst he
     rw[Nat.zero_mul,aM,am (by omega)]
   | succ i =>
     rw[aQ,Nat.one_mul,ar (by omega),hx]
     have:=h2 i e (by simpa using he) k hk
     rw[show i*size+size+k - size=i*size+k by omega]
     exact this
theorem b6c (hE:EnvOk E N) (nm:Names vs (wh vs ops)) (ho:ops[j]? = some o) (hf:FI N w G st a vs (wh vs ops)) {t e:TypeId} {l c:Operand} {px:PX} {size:Nat} {z:List PV} (cP:o.op = .makeSlice t l c)
  (hu:P.underlying t=some (.slice e)) (hn:wI P e=some size) (hz:xE P e=some z) (dD:F4 l c=true) (hx:cx E vs ops l=some px) {cf:wm} (hs:wi cf (.mkfresh size (wW P e) (P.bytesOf e) z px) st=some (u,st1)) (hk:wy N w G a st1 u vs ops j o next):o.wp P a w next Q:=by
 simp only[wi] at hs
 split at hs
 ·rename_i n eI
  split at hs
  ·rename_i hc
   obtain⟨h0,hb,hm⟩:=hc
   simp only[aa,ac] at hs
   obtain⟨rfl,rfl⟩:=hs
   obtain⟨k,hl⟩:=A9 hE hx hf eI
   obtain⟨k',mG⟩:=RA dD hl
   obtain⟨i,d,hi,gf,fK,hd⟩:=yD hn
   obtain⟨i2,zv,ed,iG,_,jF,fW,_⟩:=BL (N:=N) (w:=w) (fix:=G.fix) (hp:=G.heap) hz
   have:i2=i:=by rw[hi] at ed; simpa using ed.symm
   subst this
   subst gf
   have gC:zv.cells.size=i2.size:=by have:=fW.1; simp at this; omega
   have gz:P.bytesOf e=i2.bytes:=by simp[Program.bytesOf,hi]
   rw[gz] at hb
   have cQ:=run_make (P:=P) w t e i2 zv hu hi iG k k' n n h0 (Int.le_refl _) hb hm
   let key:Key:=xU (wJ vs o.dst) j
   let mob:Obj := .cells (madeCells zv.cells (n.toNat*i2.size)) e
   let G':GS:={ G with ow:=λx=>if x=w.heap.size then some key else G.ow x }
   have cN:Ext w G (w.alloc mob) G':=by
    refine⟨rfl,rfl,rfl,by simp,λb hb _=>yC hb,λb o h=>⟨h,C7 (hf.fixlt _ _ h)⟩,λ_ _ h => .inl h,?_,λ_ _ h=>h,.same λk hk=>yC hk,rfl⟩
    intro b hb
    by_cases cS:b<w.heap.size
    ·refine .inr ?_
     simp only[G'] at hb
     rw[af (by omega)] at hb
     exact hb
    ·exact .inl (by omega)
   have cR:xa (λ_=>False) w G (w.alloc mob) G':=by
    refine⟨?_,λ_ _ h=>h⟩
    intro b k hb _
    have cS:=hf.owlt _ _ hb
    refine⟨?_,yC cS,λ_ h=>h⟩
    simp only[G']
    rw[af (by omega)]; exact hb
   have dj:FI N (w.alloc mob) G' st a vs (wh vs ops):=hf.ext cN cR hf.gen (by
    intro b k hb
    simp only[G'] at hb
    split at hb
    ·show _<(w.alloc mob).heap.size
     simp; omega
    ·have:=hf.owlt _ _ hb
     show _<(w.alloc mob).heap.size
     simp; omega) (by intro b o h; have:=hf.fixlt _ _ h; show _<(w.alloc mob).heap.size; simp; omega)
   unfold Oper.wp
   have hr:(execOp a.eval o).run P w = .ok (.value (.slice (some ⟨w.heap.size,0,none⟩) n.toNat n.toNat)) (w.alloc mob):=by simp[execOp,cP,hl,mG,cQ,mob]
   rw[hr]
   refine hk _ _ G' (dj.put nm (yY ho) ?_) cN (yZ _ _ _)
   have fD:z.length=i2.size:=by have:=fW.1; simp at this; omega
   refine⟨w.heap.size,rfl,by simp[G',key],λo h=>by have:=hf.fixlt _ _ h; omega,_,e,AV,?_,by rw[size_madeCells]; exact ao _,?_⟩
   ·rw[size_madeCells]; simp[fD]
   ·intro k c x hc hx
    rw[ID] at hx
    rw[aA,fD] at hx
    split at hx
    ·rename_i cS
     have ix:k % i2.size<i2.size:=bJ _ (by omega)
     rw[az,ab] at hx
     obtain⟨y,hy,rfl⟩:=hx
     have jt:c=zv.cells[k % i2.size]! := by
      simp only[madeCells,bU,ab] at hc
      obtain⟨a',ha,rfl⟩:=hc
      have:a'=k:=by
       obtain⟨h1,h2⟩:=aV.1 ha
       simpa using h2.symm
      rw[this,gC]
     have lZ:zv.cells[k % i2.size]? = some c:=by
      rw[jt]
      have:k % i2.size<zv.cells.size:=by omega
      simp[this]
     have fS:=fW.2.1 y (av hy)
     refine⟨((fW.2.2 _ c y (by simpa using lZ) hy).dem).ext cN,by cases y<;>simp_all [dem,PV.flat],?_⟩
     rintro es he
     cases y<;>simp[dem] at he
    ·simp at hx
  ·simp at hs
 ·simp at hs
theorem FI.adopt {j':Nat} {t':Tmp} {sz len:Nat} {agg:Bool} {cs:List PV} (hf:FI N w G st a vs (wh vs ops)) (nm:Names vs (wh vs ops)) (hj:wh vs ops j'=some t') (hs:st.locs[j']? = some (.fresh sz agg len cs)):
  ∃G',FI N w G' { st with locs:=st.locs.set j' (.rowp st.heap.length sz agg len),heap:=st.heap++[.cells cs] } a vs (wh vs ops)∧Ext w G w G':=by
 obtain⟨b,hv,dB,nE,cv,T,hh,hl,cO,mG⟩:=hf.loc j' t' _ hj hs
 have eE:=hf.owlt _ _ dB
 let G':GS:=G.more b st.heap.length
 have cN:Ext w G w G':=by
  refine⟨rfl,rfl,rfl,ao _,λ_ _ _=>rfl,λb o h=>⟨h,rfl⟩,λ_ _ h => .inl h,?_,?_,.same λk hk=>rfl,rfl⟩
  ·intro x hx
   refine .inr ?_
   simp only[G',GS.more] at hx
   by_cases gc:x=b
   ·subst gc; rw[dB]; simp
   ·rw[af gc] at hx; exact hx
  ·intro n x h
   have:=hf.hdom _ _ h
   simp only[G',GS.more]
   rw[af (by omega)]; exact h
 have cR:xa (λk=>k = .loc j') w G w G':=by
  refine⟨?_,λ_ _ h=>h⟩
  intro x k hx cZ
  refine⟨?_,rfl,λ_ h=>h⟩
  simp only[G',GS.more]
  rw[af]
  ·exact hx
  ·rintro rfl
   rw[dB] at hx
   cases hx
   exact cZ rfl
 refine⟨G',⟨hf.len,λi t u h1 h2=>(hf.var i t u h1 h2).keep cN cR (by simp) (by simp),?_,hf.tv,hf.tl,hf.defers,hf.gen,?_,hf.fixlt,?_,?_⟩,cN⟩
 ·intro i t u h1 h2
  rw[aO] at h2
  split at h2
  ·rename_i hi
   subst hi
   split at h2
   ·simp only[aa] at h2
    subst h2
    have:t=t':=by rw[hj] at h1; simpa using h1.symm
    subst this
    rw[hv]
    refine SR.of_pure (.rowp _ _ _ _ b _ (by simp[G',GS.more]) (ao _) ⟨T,cv.size,?_,cO⟩) rfl
    simp[World.shape?,hh]
   ·simp at h2
  ·rename_i hi
   exact(hf.loc i t u h1 h2).keep cN cR (by simp; omega) (by simp)
 ·intro x k hx
  simp only[G',GS.more] at hx
  split at hx
  ·subst_vars; exact eE
  ·exact hf.owlt _ _ hx
 ·refine hf.heap.push cN cR (λ_ _ _=>⟨by simp,by simp⟩) (.inr ⟨b,by simp[G',GS.more],by simp[G',GS.more],nE,cv,T,hh,hl,?_⟩)
  intro k c x hc hx
  obtain⟨k1,k2,k3⟩:=mG k c x hc hx
  refine⟨k1.ext cN,k2,?_⟩
  split
  ·exact absurd rfl (k3 _)
  ·trivial
 ·intro n x h
  simp only[G',GS.more] at h
  simp only[ap,cI]
  split at h
  ·omega
  ·have:=hf.hdom _ _ h; omega
theorem FI.adoptAll (nm:Names vs (wh vs ops)):∀{js:List Nat} {G:GS} {st st':St},FI N w G st a vs (wh vs ops)→(∀j∈js,∃t,wh vs ops j=some t)→PI.adoptAll js st=some st'→∃G',FI N w G' st' a vs (wh vs ops)∧Ext w G w G'
 | [], G, st, st', hf, _, h => by
   simp only[PI.adoptAll,aa] at h; subst h
   exact⟨G,hf,Ext.refl _ _⟩
 | j :: js, G, st, st', hf, hl, h => by
   simp only[PI.adoptAll] at h
   split at h
   ·rename_i sz agg len cs hs
    obtain⟨t,ht⟩:=hl j (by simp)
    obtain⟨G1,dj,e1⟩:=hf.adopt nm ht hs
    obtain⟨G2,iL,e2⟩:=FI.adoptAll nm dj (λj' lU=>hl j' (by simp[lU])) h
    exact⟨G2,iL,e1.trans e2⟩
   ·simp at h
theorem d2k {t:Tmp} {j:Nat} (h:cx E vs ops (.tmp t)=some (.l j)):∃t,wh vs ops j=some t:=by
 simp only[cx] at h
 split at h
 ·simp at h
 ·rename_i hi
  cases hd:Em t ops 0 with
  | none=>rw[hd] at h; simp at h
  | some k =>
    rw[hd] at h
    simp only[aB,aa,PX.l.injEq] at h
    subst h
    obtain⟨_,o',h2,h3⟩:=LL hd
    simp only[Nat.sub_zero] at h2
    exact⟨t,by simp[wh,h2,h3,hi]⟩
theorem b7Z (hE:EnvOk E N) (nm:Names vs (wh vs ops)) (ho:ops[j]? = some o) (hf:FI N w G st a vs (wh vs ops)) {t:TypeId} {parts:Array (Nat×Operand)} {fs:Array Field} {places:List (Nat×Nat)} {z:List PV} {ps:List (Nat×Nat×PX)} {js:List Nat}
  (cP:o.op = .build t parts) (hu:P.underlying t=some (.struct fs)) (hz:xE P t=some z) (eA:fs.toList.mapM (λf=>(P.info? f.type).map λi=>(f.offset,i.size))=some places) (hj:∀j∈js,∃t,wh vs ops j=some t)
  (hc:Ca E vs ops (places.toArray[·]?) parts.toList=some ps) {cf:wm} (hs:wi cf (.buildA js z ps) st=some (u,st1)) (hk:wy N w G a st1 u vs ops j o next):o.wp P a w next Q:=by
 simp only[wi,ae] at hs
 obtain⟨st0,ha,hb⟩:=hs
 obtain⟨G',hZ,cN⟩:=FI.adoptAll nm hf hj ha
 refine Ra (cf:=cf) hE nm ho hZ cP hu hz eA hc ?_ (u:=u) (st1:=st1) ?_
 ·simp only[opv]
  exact hb
 ·intro a' w' G2 h1 h2 h3
  exact hk a' w' G2 h1 (cN.trans h2) h3
theorem b9j (hE:EnvOk E N) (nm:Names vs (wh vs ops)) (ho:ops[j]? = some o) (hf:FI N w G st a vs (wh vs ops)) {t:TypeId} {n:Nat} {x:Operand} {px:PX} (cP:o.op = .load t x) (hn:wI P t=some n) (kS:wW P t=false)
  (hx:cx E vs ops x=some px) {cf:wm} (hs:wi cf (.loadn px) st=some (u,st1)) (hk:wy N w G a st1 u vs ops j o next):o.wp P a w next Q:=by
 have fK:=hs
 simp only[wi] at hs
 split at hs
 ·rename_i m off ha
  simp only[ae] at hs
  obtain⟨cs,hg,hs⟩:=hs
  split at hs
  ·rename_i es hcell
   refine Rp (tk:=true) (cf:=cf) hE nm ho hf cP hn hx ?_ hk
   simp only[wi,ha,hg,an,kS,Bool.not_false,bQ,hcell]
   exact hs
  ·rename_i hcell
   simp only[aa,ac] at hs
   obtain⟨rfl,rfl⟩:=hs
   obtain⟨b,hv,hb⟩:=Gq hE hx hf ha
   obtain⟨ep,gj,cv,T,hh,hl,hc⟩:=DN hf hg hb
   have cS:off<cv.size:=by have:=(ai.1 hcell).1; omega
   have cW:=(hc off cv[off] _ (by simp[cS]) hcell).1
   have iU:cv[off] = .slice none 0 0:=by
    generalize cv[off]=c at cW
    cases cW; rfl
   have cQ:(execOp a.eval o).run P w = .ok (.value (.slice none 0 0)) w:=by
    have dt:w.cell? ⟨b,off,none⟩=some (.slice none 0 0):=by simp[World.cell?,hh,cS,iU]
    simp[execOp,cP,hv,Instr.loadAt,Instr.sureAddr,loadVar,Dd hn,kS,dt]
   have mY:SR N w G (xU (wJ vs o.dst) j) (.slice none 0 0) (.list true []):=⟨.nils true,by simp[Room]⟩
   exact wM nm ho hf cQ mY hk
  ·simp at hs
 ·simp at hs
theorem b9k (hE:EnvOk E N) (nm:Names vs (wh vs ops)) (ho:ops[j]? = some o) (hf:FI N w G st a vs (wh vs ops)) {t e:TypeId} {len size:Nat} {parts:Array (Nat×Operand)} {z:List PV} {ps:List (Nat×PX)}
  (cP:o.op = .buildSlice t len parts) (hu:P.underlying t=some (.slice e)) (hn:wI P e=some size) (hz:xE P e=some z) (cO:len*size≤16777216) (hc:Cz E vs ops parts.toList=some ps) {cf:wm}
  (hs:wi cf (.mkrow size (wW P e) (if wW P e then .agg z else z.headD .dead) len ps) st=some (u,st1)) (hk:wy N w G a st1 u vs ops j o next):o.wp P a w next Q:=by
 simp only[wi,ab,ae,ac] at hs
 obtain⟨rs,⟨qs,hq,wG⟩,rfl,rfl⟩:=hs
 obtain⟨ds,hR,cQ⟩:=Rf hE hf cP hu hn hz cO hc hq wG
 obtain⟨f1,f2⟩:=L8 (size:=size) (xs:=rs) (λx hx=>by
  obtain⟨i,hi⟩:=bi.1 hx
  exact(hR.2 i x hi).1)
 obtain⟨_,_,_,_,fK,_⟩:=yD hn
 refine DO (mob := .cells ds e) (v := .slice (some ⟨w.heap.size,0,none⟩) rs.length rs.length) nm ho hf cQ ?_ (λG' hG cN=>Iz hf ?_ ?_ hG cN) hk
 ·rintro G' rfl
  refine .rowp _ _ _ _ w.heap.size _ (by simp[GS.more]) (ao _) ⟨e,rs.length*size,?_,ao _⟩
  simp only[World.shape?,AV,hR.1]
 ·intro k c x pE hx
  rw[az,ab] at hx
  obtain⟨y,hy,rfl⟩:=hx
  have eW:k<rs.length*size:=by rw[← f1]; exact(ai.1 hy).1
  have hi:k / size<rs.length:=Nat.div_lt_of_lt_mul (by rw[cw]; exact eW)
  have ne:k / size*size+k % size=k:=by rw[cw]; exact Nat.div_add_mod k size
  have hm:k % size<size:=bJ _ (by omega)
  obtain⟨r1,r2,r3⟩:=hR.2 (k / size) _ (al hi)
  have fJ:=f2 (k / size) _ (al hi) (k % size) hm
  rw[ne,hy] at fJ
  have hv:=r3 (k % size) c y (by rw[ne]; exact pE) fJ.symm
  have fS:=r2 y (av fJ.symm)
  refine⟨hv.dem,by cases y<;>simp_all [dem,PV.flat],?_⟩
  rintro es he
  cases y<;>simp[dem] at he
 ·rw[aA,f1,hR.1]
theorem ListR.flats {fix:Nat→Nat→Prop} {hp:Nat→Option Nat} {size:Nat} {news:List Value} {xs:List PV} (h:ListR N w fix hp size news xs) (hs:size≠0):
  news.length=((xs.flatMap PV.cells).map dem).length∧∀(k:Nat) (c:Value) (x:PV),news[k]? = some c→((xs.flatMap PV.cells).map dem)[k]? = some x→VR N w fix hp c x∧x.flat=true∧∀es,x≠.list true es:=by
 obtain⟨h1,h2⟩:=L8 h.sz
 refine⟨by rw[aA,h1,h.len],?_⟩
 intro k c x hc hx
 simp only[az,ab] at hx
 obtain⟨y,hy,rfl⟩:=hx
 have hk:k<xs.length*size:=by rw[← h1]; exact(ai.1 hy).1
 have hi:k / size<xs.length:=by rw[Nat.div_lt_iff_lt_mul (by omega)]; exact hk
 have hm:k % size<size:=bJ _ (by omega)
 have he:k / size*size+k % size=k:=by rw[cw]; exact Nat.div_add_mod k size
 have h3:=h2 (k / size) xs[k / size] (al hi) (k % size) hm
 rw[he,hy] at h3
 refine⟨(h.vr (k / size) _ (al hi) (k % size) c y (by rw[he]; exact hc) h3.symm).dem,?_,?_⟩
 ·rw[DJ]
  exact h.flat _ (aj hi) y (av h3.symm)
 ·intro es e; cases y<;>simp[dem] at e
theorem RB (y:PV) (es:List PV):dem y≠.list true es:=by intro e; cases y<;>simp[dem] at e
theorem Hq {sz:Nat} {agg:Bool} {cs:List PV}:∀{n off:Nat} {es:List PV},yF sz agg cs n off=some es→es.length=n∧∀(i:Nat) (e:PV),es[i]? = some e→wq sz agg cs (off+i*sz)=some e
 | 0,off,es,h=>by simp[yF] at h; subst h; simp
 | n + 1, off, es, h => by
   simp only[yF,ae,ab] at h
   obtain⟨e,h1,es',h2,rfl⟩:=h
   obtain⟨k1,k2⟩:=Hq h2
   refine⟨by simp[k1],?_⟩
   intro i x hx
   cases i with
   | zero=>simp at hx; subst hx; simpa using h1
   | succ i =>
     have:=k2 i x (by simpa using hx)
     rw[aQ]
     simpa[cm,Nat.add_comm,Nat.add_left_comm] using this
theorem b70 {sz len:Nat} {agg:Bool} {cs es:List PV} (fS:∀(k:Nat) (y:PV),cs[k]? = some y→y.flat=true) (cV:agg=true∨sz=1) (he:yF sz agg cs len 0=some es):
  es.length=len∧∀(i:Nat) (e:PV),es[i]? = some e→i*sz+sz≤cs.length∧e.cells.length=sz∧∀(j:Nat) (x:PV),e.cells[j]? = some x→∃y,cs[i*sz+j]? = some y∧x=dem y∧j<sz:=by
 obtain⟨e1,e2⟩:=Hq he
 refine⟨e1,?_⟩
 intro i e hi
 have:=e2 i e hi
 rw[aM] at this
 unfold wq at this
 split at this
 ·split at this
  ·rename_i ez
   simp only[aa] at this; subst this
   refine⟨ez,by simp[PV.cells]; omega,?_⟩
   intro j x hx
   simp only[PV.cells,az,ab] at hx
   obtain⟨y,hy,rfl⟩:=hx
   rw[aW] at hy
   split at hy
   ·rw[aX] at hy
    exact⟨y,hy,rfl,by assumption⟩
   ·simp at hy
  ·simp at this
 ·rename_i gP
  have h1:sz=1:=by rcases cV with h|h; exact absurd h (by simpa using gP); exact h
  subst h1
  split at this
  ·rename_i y hy
   have cS:i*1<cs.length:=(ai.1 hy).1
   have fS:=fS _ y hy
   have fN:e=dem y∧y.cells=[y]:=by
    cases y<;>simp_all [cp,dem,PV.cells,PV.flat]
   obtain⟨rfl,_⟩:=fN
   have gG:(dem y).cells=[dem y]:=by cases y<;>simp_all [dem,PV.cells,PV.flat]
   refine⟨by omega,by rw[gG]; rfl,?_⟩
   intro j x hx
   rw[gG] at hx
   cases j with
   | zero=>simp at hx; subst hx; exact⟨y,hy,rfl,by omega⟩
   | succ j=>simp at hx
  ·simp at this
theorem RC {ts tx e ty:TypeId} {size:Nat} {s x:Operand} {base:Option Addr} (hv:a.eval s = .slice base 0 0) (dV:Src P size tx (a.eval x) 0 [] w) (eo:P.underlying ts=some (.slice e)) {i:TypeInfo} (hi:P.info? e=some i) (cV:i.size=size):
  (Builtin.append_ #[ts,tx] ty #[a.eval s,a.eval x]).run P w = .ok (.slice base 0 0) w:=by
 subst cV
 rw[hv]
 rcases dV.kind with⟨e'',dh⟩|dh<;>cases base <;>
  simp[Builtin.append_,run_underlying eo,run_underlying dh,Go.sizeOf,typeInfo,hi,dV.len,dV.cells,storeCells]
theorem RD (nm:Names vs (wh vs ops)) (ho:ops[j]? = some o) (hf:FI N w G st a vs (wh vs ops)) {heap1:List PObj} (lC:HR N w G heap1) (kF:heap1.length=st.heap.length) {v:Value} {CS:Array Value} {e:TypeId} {ps:List PV} {sz len cap:Nat} {agg:Bool}
  (cQ:(execOp a.eval o).run P w = .ok (.value (.slice (some ⟨w.heap.size,0,none⟩) len cap)) (w.drew.alloc (.cells CS e))) (cX:len≤cap) (sy:CS.size=cap*sz) (dT:ps.length≤CS.size)
  (hR:∀(k:Nat) (c:Value) (x:PV),CS[k]? = some c→ps[k]? = some x→VR N w G.fix G.heap c x∧x.flat=true∧∀es,x≠.list true es)
  (hk:wy N w G a { st with heap:=heap1++[.cells ps] } (.rowp st.heap.length sz agg len) vs ops j o next):o.wp P a w next Q:=by
 unfold Oper.wp
 rw[cQ]
 let w':World:=w.drew.alloc (.cells CS e)
 let G':GS:=G.more w.heap.size st.heap.length
 have cN:Ext w G w' G':=by
  refine⟨rfl,rfl,rfl,by simp[w'],λb hb _=>yC (w:=w.drew) hb,λb o h=>⟨h,C7 (w:=w.drew) (hf.fixlt _ _ h)⟩,λ_ _ h => .inl h,?_,?_,.same λk hk=>yC (w:=w.drew) hk,rfl⟩
  ·intro b hb
   by_cases cS:b<w.heap.size
   ·refine .inr ?_
    simp only[G',GS.more] at hb
    rw[af (by omega)] at hb
    exact hb
   ·exact .inl (by omega)
  ·intro n b h
   have:=hf.hdom _ _ h
   simp only[G',GS.more]
   rw[af (by omega)]; exact h
 have cR:xa (λ_=>False) w G w' G':=by
  refine⟨?_,λ_ _ h=>h⟩
  intro b k hb _
  have cS:=hf.owlt _ _ hb
  refine⟨?_,yC (w:=w.drew) cS,λ_ h=>h⟩
  simp only[G',GS.more]
  rw[af (by omega)]; exact hb
 have hobj:ObjR N w' G' st.heap.length w.heap.size (.cells ps):=by
  refine⟨λo h=>by have:=hf.fixlt _ _ h; omega,CS,e,AV (w:=w.drew),dT,?_⟩
  intro k c x hc hx
  obtain⟨h1,h2,h3⟩:=hR k c x hc hx
  refine⟨h1.ext cN,h2,?_⟩
  split
  ·exact absurd rfl (h3 _)
  ·trivial
 have dj:FI N w' G' { st with heap:=heap1++[.cells ps] } a vs (wh vs ops):=by
  refine⟨hf.len,λi t u h1 h2=>(hf.var i t u h1 h2).keep cN cR (λh=>h) (λ_ _ _ h=>h),λj t u h1 h2=>(hf.loc j t u h1 h2).keep cN cR (λh=>h) (λ_ _ _ h=>h),hf.tv,hf.tl,(hf.defers.trans cN.df.symm),hf.gen,?_,?_,?_,?_⟩
  ·intro b k hb
   simp only[G',GS.more] at hb
   split at hb
   ·simp[w']; omega
   ·have:=hf.owlt _ _ hb; simp[w']; omega
  ·intro b o h
   have:=hf.fixlt _ _ h; simp[w']; omega
  ·exact lC.push cN cR (λ_ _ _=>⟨λh=>h,λh=>h⟩) (.inr ⟨w.heap.size,by simp[G',GS.more,kF],by simp[G',GS.more,kF],by rw[kF]; exact hobj⟩)
  ·intro n b h
   simp only[G',GS.more] at h
   split at h
   ·simp; omega
   ·have:=hf.hdom _ _ h; simp; omega
 refine hk _ w' G' (dj.put nm (yY ho) (SR.of_pure (.rowp _ _ _ _ w.heap.size cap (by simp[G',GS.more]) cX ⟨e,cap*sz,?_,ao _⟩) rfl)) cN (yZ _ _ _)
 have h1:w'.heap[w.heap.size]? = some (.cells CS e):=AV (w:=w.drew)
 simp only[World.shape?,h1,sy]
theorem c1l (hE:EnvOk E N) (nm:Names vs (wh vs ops)) (ho:ops[j]? = some o) (hf:FI N w G st a vs (wh vs ops)) {ts tx e e':TypeId} {size:Nat} {z:List PV} {s x:Operand} {ps px:PX}
  (cP:o.op = .call { callee := .builtin .append,args := #[s,x],argTypes := #[ts,tx] }) (eo:P.underlying ts=some (.slice e)) (gq:P.underlying tx=some (.slice e')) (hn:wI P e=some size) (hz:xE P e=some z)
  (jf:cx E vs ops s=some ps) (hx:cx E vs ops x=some px) {cf:wm} (hs:wi cf (.happ size (wW P e) (P.bytesOf e) ps px) st=some (u,st1)) (hk:wy N w G a st1 u vs ops j o next):o.wp P a w next Q:=by
 obtain⟨i,d,hi,gf,fK,hd⟩:=yD hn
 obtain⟨i2,zv,ed,iG,_,jF,fW,_⟩:=BL (N:=N) (w:=w) (fix:=G.fix) (hp:=G.heap) hz
 have:i2=i:=by rw[hi] at ed; simpa using ed.symm
 subst this
 subst gf
 have gC:zv.cells.size=i2.size:=by have:=fW.1; simp at this; omega
 have gz:P.bytesOf e=i2.bytes:=by simp[Program.bytesOf,hi]
 have gS:∀v w',(Builtin.append_ #[ts,tx] o.type #[a.eval s,a.eval x]).run P w = .ok v w'→(execOp a.eval o).run P w = .ok (.value v) w':=by
  intro v w' hr
  simp[execOp,cP,resolve,invoke,builtin,hr]
 have src:∀{xs:List PV},b2G st px=some xs→w6 i2.size xs=true→∃news,ListR N w G.fix G.heap i2.size news xs∧Src P i2.size tx (a.eval x) xs.length news w:=by
  intro xs d9 hh
  unfold b2G at d9
  split at d9
  ·rename_i n sz agg len ji
   split at d9
   ·rename_i kS
    simp only[ae] at d9
    obtain⟨cs,hg,gK⟩:=d9
    have gD:=(wL hE hx hf ji).1
    generalize hv:a.eval x=v at gD
    cases gD with
    | rowp _ _ _ _ b cap hb cX dY =>
      obtain⟨ep,gj,cv,T,vZ,hl,iM⟩:=DN hf hg hb
      have fS:∀(k:Nat) (y:PV),cs[k]? = some y→y.flat=true:=λk y hy=>by
       have cS:k<cv.size:=by have:=(ai.1 hy).1; omega
       exact(iM k cv[k] y (by simp[cS]) hy).2.1
      obtain⟨e1,e2⟩:=b70 fS kS gK
      by_cases fV:xs=[]
      ·subst fV
       simp only[bB] at e1
       subst e1
       exact⟨[],⟨by simp,by simp,by simp,by simp⟩,Src.ofSlice w gq ⟨b,0,none⟩ 0 cap [] (by simp) (by simp) (by simp)⟩
      ·have cV:sz=i2.size:=by
        cases xs with
        | nil=>exact absurd rfl fV
        | cons y ys =>
          have h1:=(e2 0 y rfl).2.1
          simp[w6] at hh
          omega
       subst cV
       have dE:0<xs.length:=b7.2 fV
       have ig:=(e2 (xs.length - 1) (xs[xs.length - 1]'(by omega)) (al (by omega))).1
       have ft:xs.length*i2.size≤cs.length:=by
        have:xs.length=(xs.length - 1)+1:=by omega
        rw[this,aQ,Nat.one_mul]; exact ig
       let news:=cv.toList.take (xs.length*i2.size)
       have gI:news.length=xs.length*i2.size:=by simp only[news,bk,bb]; omega
       have pX:∀(k:Nat) (u:Value),news[k]? = some u→cv[k]? = some u:=by
        intro k u hu
        simp only[news,aW] at hu
        split at hu
        ·simpa using hu
        ·simp at hu
       have hL:ListR N w G.fix G.heap i2.size news xs:=by
        refine⟨gI,?_,?_,?_⟩
        ·intro e he
         obtain⟨i,hi⟩:=bi.1 he
         exact(e2 i e hi).2.1
        ·intro e he y hy
         obtain⟨i,hi⟩:=bi.1 he
         obtain⟨j,hj⟩:=bi.1 hy
         obtain⟨z,hz,rfl,_⟩:=(e2 i e hi).2.2 j y hj
         rw[DJ]; exact fS _ z hz
        ·intro i e hi k c y hc hy
         obtain⟨z,hz,rfl,_⟩:=(e2 i e hi).2.2 k y hy
         exact(iM _ c z (pX _ _ hc) hz).1.dem
       refine⟨news,hL,?_⟩
       rw[← e1]
       exact Src.ofSlice w gq ⟨b,0,none⟩ xs.length cap news gI (λj u hu=>by
        rw[zO]
        have:=pX j u hu
        simp only[World.cell?,vZ,aM]
        simpa using this) (hL.one fK)
   ·simp at d9
  rotate_left
  ·simp at d9
  rename_i p0 _ ji
  have kC:=d9
  clear d9
  have gD:=(wL hE hx hf ji).1.row kC
  obtain⟨news,fx,pE⟩:=LT gD hh
  refine⟨news,fx,?_⟩
  rcases pE with⟨h1,h2,h3⟩|⟨ad,cap,h1,h2,h3⟩|⟨b,off,cap,h1,h2,h3⟩
  ·rw[h1,h2,h3]; exact Src.ofNil w gq 0
  ·rw[h1,h2,h3]; exact Src.ofSlice w gq ad 0 cap [] (by simp) (by simp) (by simp)
  ·rw[h1]
   exact Src.ofSlice w gq ⟨b,off,none⟩ xs.length cap news fx.len (λj u hu=>by rw[zO]; exact(h3 j u hu).1) (fx.one fK)
 have grow:∀{heap1:List PObj} {xs oldps:List PV} {news olds:List Value} {base:Option Addr} {len cap:Nat},HR N w G heap1→heap1.length=st.heap.length→ListR N w G.fix G.heap i2.size news xs→Src P i2.size tx (a.eval x) xs.length news w→a.eval s = .slice base len cap →
   (Builtin.firstCells i2.size len (.slice base len cap)).run P w.drew = .ok olds.toArray w.drew→olds.length=len*i2.size→oldps.length=olds.length→(∀(k:Nat) (c:Value) (y:PV),olds[k]? = some c→oldps[k]? = some y→VR N w G.fix G.heap c y∧y.flat=true∧∀es,y≠.list true es) →
   cap<len+xs.length→len+xs.length≤2147483648→i2.bytes≤16384 →
   wy N w G a { st with heap:=heap1++[.cells (oldps++(xs.flatMap PV.cells).map dem)] } (.rowp st.heap.length i2.size (wW P e) (len+xs.length)) vs ops j o next→o.wp P a w next Q:=by
  intro heap1 xs oldps news olds base len cap lC ee fx dV hv gT ma m8 wc cX fe dO hk
  have eF:(len+xs.length)*i2.bytes≤140737488355328:=aR (Nat.mul_le_mul fe dO) (by decide)
  have cQ:=run_append_grow_src (P:=P) w ts tx o.type e i2 zv eo hi iG base len cap olds gT (a.eval x) xs.length news dV cX (by omega) (growslice_fits cX eF)
  rw[← hv] at cQ
  obtain⟨fS,sL⟩:=fx.flats fK
  have gx:=grownCap_ge w (len+xs.length) cap e
  refine RD (v:=undef) (sz:=i2.size) (cap:=grownCap w (len+xs.length) cap e) nm ho hf lC ee (gS _ _ cQ) gx ?_ ?_ ?_ hk
  ·simp only[bV,co,size_zeroCells,gC,ma,fx.len,ap]
   rw[Nat.sub_mul,aQ]
   have:(len+xs.length)*i2.size≤grownCap w (len+xs.length) cap e*i2.size:=bo _ gx
   rw[aQ] at this
   omega
  ·simp only[bV,co,ap,m8]
   omega
  ·intro k c y hc hy
   by_cases fX:k<olds.length
   ·rw[am (by omega)] at hy
    rw[bm (by simp; omega)] at hc
    simp only[bN] at hc
    rw[am fX] at hc
    exact wc k c y hc hy
   ·rw[ar (by omega)] at hy
    have cS:k - olds.length<news.length:=by
     rw[fS,← m8]; exact(ai.1 hy).1
    rw[bm (by simp; omega)] at hc
    simp only[bN] at hc
    rw[ar (by omega)] at hc
    rw[m8] at hy
    exact sL _ c y hc hy
 simp only[wi] at hs
 rw[gz] at hs
 split at hs
 ·rename_i xs n sz ag len d9 fB
  split at hs
  ·rename_i cs dB
   split at hs
   ·rename_i hc
    obtain⟨rfl,rfl,dt,gN,fe,dO⟩:=hc
    simp only[aa,ac] at hs
    obtain⟨rfl,rfl⟩:=hs
    obtain⟨news,fx,dV⟩:=src d9 gN
    have kK:=((BK hE jf hf fB).read (r := .rowp n i2.size (wW P e) len) rfl).1
    generalize hv:a.eval s=v at kK
    cases kK with
    | rowp _ _ _ _ b cap hb cX dY =>
      obtain⟨T',m,pG,sM⟩:=dY
      obtain⟨ep,gj,cv,T,hh,hl,iM⟩:=DN hf (show wR st n=some cs by simp[wR,dB]) hb
      have hm:m=cv.size:=by simp only[World.shape?,hh,aa,ac] at pG; exact pG.2.symm
      subst hm
      have jw:=dt
      obtain⟨O,hO⟩:∃O,(cs.take (len*i2.size)).map dem=O:=⟨_,rfl⟩
      rw[hO] at hk
      have dt:O.length=len*i2.size:=by rw[← hO]; simp; omega
      have mb:∀(k:Nat) (c:Value) (y:PV),(cv.toList.take (len*i2.size))[k]? = some c→O[k]? = some y→VR N w G.fix G.heap c y∧y.flat=true∧∀es,y≠.list true es:=by
       intro k c y hc hy
       rw[← hO] at hy
       simp only[az,ab] at hy
       obtain⟨y0,lg,rfl⟩:=hy
       have lg:cs[k]? = some y0:=by
        rw[aW] at lg
        split at lg
        ·exact lg
        ·simp at lg
       rw[aW] at hc
       split at hc
       ·have:=iM k c y0 (by simpa using hc) lg
        exact⟨this.1.dem,by rw[DJ]; exact this.2.1,RB y0⟩
       ·simp at hc
      have ma:(cv.toList.take (len*i2.size)).length=len*i2.size:=by simp; omega
      have dp:∀(k:Nat) (u:Value),(cv.toList.take (len*i2.size))[k]? = some u→w.cell? ⟨b,0+k,none⟩=some u:=by
       intro k u hu
       rw[aW] at hu
       split at hu
       ·simp only[World.cell?,hh,aM]; simpa using hu
       ·simp at hu
      by_cases jm:cap<len+xs.length
      ·refine grow (heap1:=st.heap.set n .gone) ?_ (by simp) fx dV hv (olds:=cv.toList.take (len*i2.size)) ?_ ma (by rw[dt,ma]) mb jm fe dO hk
       ·exact hf.heap.keepBut (K:=λ_=>False) (Ext.refl _ _) ⟨λ_ _ h _=>⟨h,rfl,λ_ h=>h⟩,λ_ _ h=>h⟩ (λ_ _ _=>⟨λh=>h,λh=>h⟩) (λ_ => .inl rfl)
       ·exact run_firstCells_some w.drew _ _ _ _ _ _ ma (λk u hu=>by rw[zO]; exact dp k u hu)
      ·
       have ez:len+xs.length≤cap:=by omega
       obtain⟨fS,sL⟩:=fx.flats fK
       have gQ:len*i2.size+news.length≤cv.size:=by
        rw[fx.len]
        have:(len+xs.length)*i2.size≤cap*i2.size:=bo _ ez
        rw[aQ] at this; omega
       let NR:Array Value:=(cv.toList.take (len*i2.size)++news++cv.toList.drop (len*i2.size+news.length)).toArray
       have jG:NR.size=cv.size:=by simp only[NR,co,ap,bk,cg,bb]; omega
       have cQ:(Builtin.append_ #[ts,tx] o.type #[a.eval s,a.eval x]).run P w = .ok (.slice (some ⟨b,0,none⟩) (len+xs.length) cap) (w.setRow b NR):=by
        have dC:=Iv P b (len*i2.size) T (0,0) news 0 cv w hh (λo _ h=>by simp at h) (by simpa using gQ) (fx.one fK)
        simp only[bq] at dC
        rw[hv]
        rcases dV.kind with⟨e'',dh⟩|dh <;>
         simp[Builtin.append_,run_underlying eo,run_underlying dh,Go.sizeOf,typeInfo,hi,dV.len,ez,dV.cells,zO,dC,NR]
       have eE:b<w.heap.size:=hf.owlt _ _ ep
       have cY:∀x,x≠b→(w.setRow b NR).heap[x]? = w.heap[x]? := λx hx=>setRow_other w b x _ hx
       let G':GS:={ G with heap:=λm=>if m=st.heap.length then some b else G.heap m,ow:=λx=>if x=b then some (.hobj st.heap.length) else G.ow x }
       have cN:Ext w G (w.setRow b NR) G':=by
        refine⟨rfl,rfl,rfl,by simp[World.setRow],?_,?_,λ_ _ h => .inl h,?_,?_,Gp hh _ jG,rfl⟩
        ·intro y _ jv
         exact cY y (by rintro rfl; rw[ep] at jv; simp at jv)
        ·intro y o' fG
         have jn:y≠b:=by rintro rfl; exact gj _ fG
         exact⟨fG,by simp only[World.cell?,cY y jn]⟩
        ·intro y hy
         simp only[G'] at hy
         split at hy
         ·rename_i jn; exact .inr (by rw[jn,ep]; simp)
         ·exact .inr hy
        ·intro m y hy
         have:=hf.hdom _ _ hy
         simp only[G']
         rw[af (by omega)]; exact hy
       have cR:xa (λk=>k = .hobj n) w G (w.setRow b NR) G':=by
        refine⟨?_,λ_ _ h=>h⟩
        intro y k hy gH
        have jn:y≠b:=by rintro rfl; rw[ep] at hy; simp at hy; exact gH hy.symm
        refine⟨?_,cY y jn,λ_ h=>h⟩
        simp only[G']; rw[af jn]; exact hy
       have jR:n<st.heap.length:=(ai.1 dB).1
       have d8:HR N (w.setRow b NR) G' (st.heap.set n .gone++[.cells (O++(xs.flatMap PV.cells).map dem)]):=by
        refine⟨?_,hf.heap.2.ext cN⟩
        intro m ob hm
        by_cases tX:m<(st.heap.set n .gone).length
        ·rw[am tX,aO] at hm
         split at hm
         ·exact .inl (by simpa[jR] using hm.symm)
         ·rename_i cZ
          rcases hf.heap.1 m ob hm with rfl|⟨y,h1,h2,h3⟩
          ·exact .inl rfl
          ·exact .inr ⟨y,cN.heap _ _ h1,(cR.1 _ _ h2 (by simp; omega)).1,h3.keep h2 cN cR (by simp; omega) (by simp)⟩
        ·rw[ar (by omega)] at hm
         simp only[bp] at hm tX
         have lB:m - st.heap.length=0:=by
          cases hx:m - st.heap.length with
          | zero=>rfl
          | succ k=>rw[hx] at hm; simp at hm
         rw[lB] at hm
         simp at hm
         subst hm
         have jL:m=st.heap.length:=by omega
         subst jL
         refine .inr ⟨b,by simp[G'],by simp[G'],λo' h=>gj o' h,NR,T,setRow_heap w b cv NR T (0,0) hh,?_,?_⟩
         ·simp only[ap]
          rw[← fS,dt,jG]; exact gQ
         ·intro k c y hc hy
          have fH:VR N w G.fix G.heap c y∧y.flat=true∧∀es,y≠.list true es:=by
           simp only[NR,bN,aJ] at hc
           by_cases fX:k<len*i2.size
           ·rw[am (by rw[dt]; exact fX)] at hy
            rw[am (by rw[ma]; exact fX)] at hc
            exact mb k c y hc hy
           ·rw[ar (by rw[dt]; omega),dt] at hy
            have cS:k - len*i2.size<news.length:=by rw[fS]; exact(ai.1 hy).1
            rw[ar (by rw[ma]; omega),ma,am cS] at hc
            exact sL _ c y hc hy
          refine⟨fH.1.ext cN,fH.2.1,?_⟩
          split
          ·exact absurd rfl (fH.2.2 _)
          ·trivial
       unfold Oper.wp
       rw[gS _ _ cQ]
       have dj:FI N (w.setRow b NR) G' { st with heap:=st.heap.set n .gone++[.cells (O++(xs.flatMap PV.cells).map dem)] } a vs (wh vs ops):=by
        refine⟨hf.len,λi t u h1 h2=>(hf.var i t u h1 h2).keep cN cR (by simp) (by simp),λj t u h1 h2=>(hf.loc j t u h1 h2).keep cN cR (by simp) (by simp),hf.tv,hf.tl,hf.defers,hf.gen,?_,?_,d8,?_⟩
        ·intro y k hy
         simp only[G'] at hy
         split at hy
         ·rename_i jn; simp[World.setRow,jn,eE]
         ·have:=hf.owlt _ _ hy; simpa[World.setRow] using this
        ·intro y o' h; have:=hf.fixlt _ _ h; simpa[World.setRow] using this
        ·intro m y hy
         simp only[G'] at hy
         split at hy
         ·simp; omega
         ·have:=hf.hdom _ _ hy; simp; omega
       refine hk _ _ G' (dj.put nm (yY ho) (SR.of_pure (.rowp _ _ _ _ b cap (by simp[G']) ez ⟨T,cv.size,?_,sM⟩) rfl)) cN (yZ _ _ _)
       simp only[World.shape?,setRow_heap w b cv NR T (0,0) hh,jG]
   ·simp at hs
  ·simp at hs
 ·rename_i xs d9 fB
  have mY:=BK hE jf hf fB
  obtain⟨cW,dA⟩:VR N w G.fix G.heap (a.eval s) (.list true [])∧Room w G (zt ps) (a.eval s) []:=mY
  have dl:∃base,a.eval s = .slice base 0 0:=by
   generalize a.eval s=v at cW dA
   cases cW with
   | nils=>exact⟨none,rfl⟩
   | void _ ad cap =>
     rcases dA with h|⟨_,_,_,_,_,_,_,h,_⟩
     ·subst h; exact⟨_,rfl⟩
     ·simp at h
   | list _ b off len cap sz _ cv cO cX _ _ _ _ =>
     simp at cO; subst cO
     rcases dA with h|⟨_,_,_,_,_,_,_,h,_⟩
     ·subst h; exact⟨_,rfl⟩
     ·simp at h
  obtain⟨base,hv⟩:=dl
  split at hs
  ·rename_i fV
   subst fV
   simp only[aa,ac] at hs
   obtain⟨rfl,rfl⟩:=hs
   obtain⟨news,fx,dV⟩:=src d9 rfl
   have eI:news=[]:=bu.1 (by rw[fx.len]; simp)
   subst eI
   refine wM nm ho hf (gS _ _ (RC hv dV eo hi rfl)) ?_ hk
   cases base with
   | none=>exact⟨.nils true,True.intro⟩
   | some ad=>exact⟨.void true ad 0,.inl rfl⟩
  ·rename_i fV
   split at hs
   ·rename_i hc
    obtain⟨gN,fe,dO⟩:=hc
    simp only[aa,ac] at hs
    obtain⟨rfl,rfl⟩:=hs
    obtain⟨news,fx,dV⟩:=src d9 gN
    have dE:0<xs.length:=b7.2 fV
    have gT:(Builtin.firstCells i2.size 0 (.slice base 0 0)).run P w.drew = .ok ([]:List Value).toArray w.drew:=by
     cases base with
     | none=>exact run_firstCells_none w.drew _ _ _ _
     | some ad=>exact run_firstCells_some w.drew _ _ _ _ _ [] (by simp) (by simp)
    refine grow (heap1:=st.heap) (oldps:=[]) hf.heap rfl fx dV hv gT (by simp) rfl (by simp) (by omega) (by omega) dO ?_
    simpa using hk
   ·simp at hs
 ·rename_i xs d9 fB
  have cW:VR N w G.fix G.heap (a.eval s) .nils:=((BK hE jf hf fB).read (r := .nils) rfl).1
  have hv:a.eval s = .slice none 0 0:=by
   generalize a.eval s=v at cW
   cases cW with
   | nils'=>rfl
  split at hs
  ·rename_i fV
   subst fV
   simp only[aa,ac] at hs
   obtain⟨rfl,rfl⟩:=hs
   obtain⟨news,fx,dV⟩:=src d9 rfl
   have eI:news=[]:=bu.1 (by rw[fx.len]; simp)
   subst eI
   exact wM nm ho hf (gS _ _ (RC hv dV eo hi rfl)) (SR.of_pure .nils' rfl) hk
  ·rename_i fV
   split at hs
   ·rename_i hc
    obtain⟨gN,fe,dO⟩:=hc
    simp only[aa,ac] at hs
    obtain⟨rfl,rfl⟩:=hs
    obtain⟨news,fx,dV⟩:=src d9 gN
    have dE:0<xs.length:=b7.2 fV
    refine grow (heap1:=st.heap) (oldps:=[]) hf.heap rfl fx dV hv (run_firstCells_none w.drew _ _ _ _) (by simp) rfl (by simp) (by omega) (by omega) dO ?_
    simpa using hk
   ·simp at hs
 ·simp at hs
theorem b2r (w:World) (ts tx ty e:TypeId) (i:TypeInfo) (zv:Value) {k0:IntKind} (eo:P.underlying ts=some (.slice e)) (gq:P.underlying tx=some (.int k0)) (hi:P.info? e=some i) (hz:i.zero=some zv) (k:IntKind) (n:Nat)
  (h0:0<n) (hn:n≤2147483648) (hb:i.bytes≤16384):
  (Builtin.append_ #[ts,tx] ty #[.slice none 0 0,.int k n]).run P w = .ok (.slice (some ⟨w.heap.size,0,none⟩) n (grownCap w n 0 e))
   (w.drew.alloc (.cells ((if n*i.size=0 then #[] else Builtin.zeroCells zv.cells n)++Builtin.zeroCells zv.cells (grownCap w n 0 e - n)) e)):=by
 have eF:n*i.bytes≤140737488355328:=aR (Nat.mul_le_mul hn hb) (by decide)
 have gQ:=growslice_fits (need:=n) (old:=0) (bytes:=i.bytes) h0 eF
 have mc:¬(281474976710656<Builtin.nextslicecap n 0*i.bytes):=by omega
 have hw:IntKind.i64.wrap (n:Int)=n:=by
  show (if (true&&decide ((n:Int) % 18446744073709551616≥9223372036854775808))=true then(n:Int) % 18446744073709551616 - 18446744073709551616 else(n:Int) % 18446744073709551616)=_
  simp only[cr,aw]
  split<;>omega
 have h1:¬((n:Int)<0):=by omega
 have h2:¬((281474976710656:Int)<(n:Int)*(i.bytes:Int)):=by
  have:((n*i.bytes:Nat):Int)≤140737488355328:=Int.ofNat_le.2 eF
  rw[Int.natCast_mul] at this
  omega
 have h3:¬((9223372036854775807:Int)<(n:Int)):=by omega
 have h4:¬(n=0):=by omega
 by_cases cV:n*i.size=0
 ·simp[Builtin.append_,run_underlying eo,run_underlying gq,Go.sizeOf,typeInfo,zeroValue,hi,hz,asInt,asIntOf,hw,h1,h2,h3,h4,mc,Question.forced,newRow,grownCap,Builtin.firstCells,cV]
 ·simp[Builtin.append_,run_underlying eo,run_underlying gq,Go.sizeOf,typeInfo,zeroValue,hi,hz,asInt,asIntOf,hw,h1,h2,h3,h4,mc,Question.forced,newRow,grownCap,Builtin.firstCells,cV]
theorem b9l (hE:EnvOk E N) (nm:Names vs (wh vs ops)) (ho:ops[j]? = some o) (hf:FI N w G st a vs (wh vs ops)) {ts tx e:TypeId} {k0:IntKind} {size:Nat} {z:List PV} {s x:Operand} {ps px:PX}
  (cP:o.op = .call { callee := .builtin .append,args := #[s,x],argTypes := #[ts,tx] }) (eo:P.underlying ts=some (.slice e)) (gq:P.underlying tx=some (.int k0)) (hn:wI P e=some size) (hz:xE P e=some z)
  (jf:cx E vs ops s=some ps) (hx:cx E vs ops x=some px) {cf:wm} (hs:wi cf (.happz size (wW P e) (P.bytesOf e) z ps px) st=some (u,st1)) (hk:wy N w G a st1 u vs ops j o next):o.wp P a w next Q:=by
 obtain⟨i,d,hi,gf,fK,hd⟩:=yD hn
 obtain⟨i2,zv,ed,iG,_,jF,fW,_⟩:=BL (N:=N) (w:=w) (fix:=G.fix) (hp:=G.heap) hz
 have:i2=i:=by rw[hi] at ed; simpa using ed.symm
 subst this
 subst gf
 have gC:zv.cells.size=i2.size:=by have:=fW.1; simp at this; omega
 have fD:z.length=i2.size:=by have:=fW.1; simp at this; omega
 have gz:P.bytesOf e=i2.bytes:=by simp[Program.bytesOf,hi]
 simp only[wi] at hs
 rw[gz] at hs
 split at hs
 ·rename_i n eI p5
  split at hs
  ·rename_i hc
   obtain⟨h0,h1,hb⟩:=hc
   simp only[aa,ac] at hs
   obtain⟨rfl,rfl⟩:=hs
   obtain⟨k,hl⟩:=A9 hE hx hf eI
   have hv:a.eval s = .slice none 0 0:=by
    have:=(wL hE jf hf p5).1
    generalize a.eval s=v at this
    cases this
    rfl
   obtain⟨m,rfl⟩:∃m:Nat,n=m:=⟨n.toNat,by omega⟩
   have cQ:=b2r (P:=P) w ts tx o.type e i2 zv eo gq hi iG k m (by omega) (by omega) hb
   rw[← hv,← hl] at cQ
   have jo:(execOp a.eval o).run P w = .ok (.value (.slice (some ⟨w.heap.size,0,none⟩) m (grownCap w m 0 e))) (w.drew.alloc (.cells ((if m*i2.size=0 then #[] else Builtin.zeroCells zv.cells m)++Builtin.zeroCells zv.cells (grownCap w m 0 e - m)) e)):=by
    simp[execOp,cP,resolve,invoke,builtin,cQ]
   have dE:¬m*i2.size=0:=by
    intro h
    rcases Nat.mul_eq_zero.1 h with h|h<;>omega
   rw[af dE] at jo
   have gx:=grownCap_ge w m 0 e
   refine RD (v:=undef) (sz:=i2.size) (cap:=grownCap w m 0 e) nm ho hf hf.heap rfl jo gx ?_ ?_ ?_ hk
   ·simp only[bV,size_zeroCells,gC]
    rw[Nat.sub_mul]
    have:m*i2.size≤grownCap w m 0 e*i2.size:=bo _ gx
    omega
   ·simp[List.length_flatten,fD,size_zeroCells,gC]
   ·intro k c y hc hy
    simp only[Int.toNat_natCast] at hy
    rw[ID,aA,fD] at hy
    split at hy
    ·rename_i cS
     rw[bm (by rw[size_zeroCells,gC]; exact cS)] at hc
     have ix:k % i2.size<i2.size:=bJ _ (by omega)
     have jt:c=zv.cells[k % i2.size]! := by
      simp only[Builtin.zeroCells,bU,ab] at hc
      obtain⟨a',ha,rfl⟩:=hc
      have:a'=k:=by
       obtain⟨h1,h2⟩:=aV.1 ha
       simpa using h2.symm
      rw[this,gC]
     have lZ:zv.cells[k % i2.size]? = some c:=by
      rw[jt]
      have:k % i2.size<zv.cells.size:=by omega
      simp[this]
     simp only[az,ab] at hy
     obtain⟨y0,hy,rfl⟩:=hy
     exact⟨(fW.2.2 _ c y0 (by simpa using lZ) hy).dem,by rw[DJ]; exact fW.2.1 y0 (av hy),RB y0⟩
    ·simp at hy
  ·simp at hs
 ·simp at hs
theorem b9m (hE:EnvOk E N) (nm:Names vs (wh vs ops)) (ho:ops[j]? = some o) (hf:FI N w G st a vs (wh vs ops)) {t e:TypeId} {rest:List TypeId} {size:Nat} {z:List PV} {x:Operand} {px:PX} (ea:o.dst=none)
  (cP:o.op = .call { callee := .builtin .clear,args := #[x],argTypes:=⟨t::rest⟩ }) (hu:P.underlying t=some (.slice e)) (hn:wI P e=some size) (hz:xE P e=some z)
  (hx:cx E vs ops x=some px) {cf:wm} (hs:wi cf (.clear size px) st=some (u,st1)) (hk:wy N w G a st1 u vs ops j o next):o.wp P a w next Q:=by
 obtain⟨i,d,hi,gf,fK,hd⟩:=yD hn
 obtain⟨i2,zv,ed,iG,_,jF,fW,_⟩:=BL (N:=N) (w:=w) (fix:=G.fix) (hp:=G.heap) hz
 have:i2=i:=by rw[hi] at ed; simpa using ed.symm
 subst this
 subst gf
 have gC:zv.cells.size=i2.size:=by have:=fW.1; simp at this; omega
 simp only[wi] at hs
 split at hs
 ·rename_i n sz off wd
  split at hs
  ·rename_i cs dB
   split at hs
   ·rename_i hc
    obtain⟨rfl,fR⟩:=hc
    simp only[aa,ac] at hs
    obtain⟨rfl,rfl⟩:=hs
    obtain⟨agg,len,gD⟩:∃agg len,VR N w G.fix G.heap (a.eval x) (.rows n i2.size agg off len):=by
     obtain⟨p,hr,hp⟩:=ae.1 wd
     have gD:=(wL hE hx hf hr).1
     cases p<;>simp only[EU,aa,ac,reduceCtorEq] at hp
     ·rename_i n' sz' ag ln
      obtain⟨rfl,rfl,rfl⟩:=hp
      generalize a.eval x=v at gD ⊢
      cases gD with
      | rowp _ _ _ _ b cap h cX dY =>
        obtain⟨T,m,h1,h2⟩:=dY
        exact⟨ag,ln,.rows _ _ _ 0 _ b 0 cap m T h cX (.inr (by simp)) h1 (by rw[aM]; exact aR (bo _ cX) h2)⟩
     ·obtain⟨rfl,rfl,rfl⟩:=hp
      exact⟨_,_,gD⟩
    generalize hv:a.eval x=v at gD
    cases gD with
    | rows _ _ _ _ _ b o' cap m T hb cX p9 dY hm =>
      obtain⟨ep,gj,cv,T',hh,hl,iM⟩:=DN hf (show wR st n=some cs by simp[wR,dB]) hb
      have m7:m=cv.size:=by simp only[World.shape?,hh,aa,ac] at dY; exact dY.2.symm
      subst m7
      have eE:b<w.heap.size:=hf.owlt _ _ ep
      obtain⟨NR,we,wg,cQ⟩:∃NR:Array Value,NR.size=cv.size∧(∀k,k<off*i2.size→NR[k]? = cv[k]?)∧(execOp a.eval o).run P w = .ok (.value (.tuple #[])) (w.setRow b NR):=by
       cases len with
       | zero =>
         refine⟨cv,rfl,λ_ _=>rfl,?_⟩
         have hw:w.setRow b cv=w:=by
          have h2:(w.setRow b cv).heap=w.heap:=by
           apply Array.ext_getElem?
           intro k
           by_cases tY:k=b
           ·subst tY; rw[setRow_heap w k cv cv T' (0,0) hh,hh]
           ·exact setRow_other w b k _ tY
          exact aF (λh=>{ w with heap:=h }) h2
         rw[hw]
         simp[execOp,cP,hv,resolve,invoke,builtin,Builtin.clear_,run_underlying hu]
       | succ len =>
         have ho:o'=off*i2.size:=by rcases p9 with h|h; exact absurd h (by omega); exact h
         subst ho
         let zs:List Value:=(Builtin.zeroCells zv.cells (len+1)).toList
         have pH:zs.length=(len+1)*i2.size:=by simp only[zs,bb,size_zeroCells,gC]
         have dC:=Iv P b (off*i2.size) T' (0,0) zs 0 cv w hh (λo _ h=>by simp at h) (by rw[aQ] at hm; simp only[pH]; omega) (by
          intro u hu
          simp only[zs,Builtin.zeroCells,Array.toList_map,bc] at hu
          obtain⟨a',_,rfl⟩:=hu
          have ix:a' % zv.cells.size<zv.cells.size:=bJ _ (by omega)
          have lZ:zv.cells[a' % zv.cells.size]? = some zv.cells[a' % zv.cells.size]! := by simp[ix]
          have pI:a' % zv.cells.size<z.length:=by have:=fW.1; simp at this; omega
          have h1:=(fW.2.2 _ _ z[a' % zv.cells.size] (by simpa using lZ) (al pI)).oneCell (fW.2.1 _ (aj pI))
          generalize zv.cells[a' % zv.cells.size]! = c at h1
          cases c<;>first|rfl|simp[oneCell] at h1)
         refine⟨(cv.toList.take (off*i2.size)++zs++cv.toList.drop (off*i2.size+zs.length)).toArray,?_,?_,?_⟩
         ·rw[aQ] at hm
          simp only[co,ap,bk,cg,bb,pH]; omega
         ·intro k hk
          rw[aQ] at hm
          simp only[bN,aJ]
          rw[am (by simp; omega),aW,ah hk]
          simp
         ·simp only[zs] at dC
          simp[execOp,cP,hv,resolve,invoke,builtin,Builtin.clear_,run_underlying hu,zeroValue,typeInfo,hi,iG,dC,zs]
      have cY:∀x,x≠b→(w.setRow b NR).heap[x]? = w.heap[x]? := λx hx=>setRow_other w b x _ hx
      have cN:Ext w G (w.setRow b NR) G:=by
       refine⟨rfl,rfl,rfl,by simp[World.setRow],?_,?_,λ_ _ h => .inl h,λ_ h => .inr h,λ_ _ h=>h,Gp hh _ we,rfl⟩
       ·intro x _ jk
        exact cY x (by rintro rfl; rw[ep] at jk; simp at jk)
       ·intro x o' fG
        refine⟨fG,?_⟩
        have gc:x≠b:=by rintro rfl; exact gj _ fG
        simp only[World.cell?,cY x gc]
      have cR:xa (λk=>k = .hobj n) w G (w.setRow b NR) G:=by
       refine⟨?_,λ_ _ h=>h⟩
       intro x k gR gH
       refine⟨gR,cY x ?_,λ_ h=>h⟩
       rintro rfl
       rw[ep] at gR
       simp at gR
       exact gH gR.symm
      have iL:FI N (w.setRow b NR) G { st with heap:=st.heap.set n (.cells (cs.take (off*i2.size))) } a vs (wh vs ops):=by
       refine⟨hf.len,λi t' u' h1 h2=>(hf.var i t' u' h1 h2).keep cN cR (by simp) (by simp),λi t' u' h1 h2=>(hf.loc i t' u' h1 h2).keep cN cR (by simp) (by simp),hf.tv,hf.tl,hf.defers,hf.gen,?_,?_,?_,?_⟩
       ·intro x k hx; simpa[World.setRow] using hf.owlt x k hx
       ·intro x o' hx; simpa[World.setRow] using hf.fixlt x o' hx
       ·refine hf.heap.keepBut cN cR (λn k cZ=>⟨by simp; omega,by simp⟩) (λ_ =>?_)
        refine .inr ⟨b,hb,ep,gj,NR,T',setRow_heap w b cv NR T' (0,0) hh,?_,?_⟩
        ·simp; omega
        ·intro k c y hc hy
         rw[aW] at hy
         split at hy
         ·rename_i ey
          rw[wg k ey] at hc
          exact(iM k c y hc hy).keep cN cR (by simp)
         ·simp at hy
       ·simp only[bp]; exact hf.hdom
      unfold Oper.wp
      rw[cQ]
      have f0:a.put o.dst (.tuple #[])=a:=by simp[ea,Act.put]
      have hd:wJ vs o.dst = .n:=by simp[ea,wJ]
      show next (a.put o.dst (.tuple #[])) _
      rw[f0]
      refine hk _ _ G ?_ cN rfl
      rw[hd]
      exact iL
   ·simp at hs
  ·simp at hs
 ·simp at hs
end
end PI
