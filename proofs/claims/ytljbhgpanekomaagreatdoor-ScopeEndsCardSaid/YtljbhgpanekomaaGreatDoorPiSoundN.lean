import Derived.Test.YtljbhgpanekomaaGreatDoorPiSound8
import Derived.Laws.MakeOwn
import Derived.Laws.RangeString
import Derived.Orders
import Derived.LoopN
set_option maxRecDepth 100000
set_option linter.unusedSimpArgs false
set_option linter.unusedVariables false
set_option linter.unusedSectionVars false
namespace PI
open Go
section
variable {E:Env} {N:Nm} {w:World} {G:GS} {st:St} {a:Act} {vs:List Tmp} {ops:List Oper} {P:Program}
variable {o:Oper} {j:Nat} {next:Act→World→Prop} {Q:Exit→Act→World→Prop} {u:PV} {st1:St}
theorem b3X {α:Type} (l:List α):∀(n k:Nat),(List.replicate n l).flatten[k]? = if k<n*l.length then l[k % l.length]? else none
 | 0,k=>by simp
 | n + 1, k => by
   have ih:=b3X l n (k - l.length)
   have e:(n+1)*l.length=n*l.length+l.length:=Nat.succ_mul _ _
   rw[List.replicate_succ,List.flatten_cons,List.getElem?_append,ih,e]
   by_cases hk:k<l.length
   ·have:k<n*l.length+l.length:=by omega
    simp only[hk,this,Nat.mod_eq_of_lt hk,if_true]
   ·have hm:(k - l.length) % l.length=k % l.length:=(Nat.mod_eq_sub_mod (by omega)).symm
    by_cases h2:k - l.length<n*l.length
    ·have:k<n*l.length+l.length:=by omega
     simp only[hk,h2,this,if_true,if_false,hm]
    ·have:¬k<n*l.length+l.length:=by omega
     simp only[hk,h2,this,if_false]
theorem b8o {x y:Operand} (h:c0r x y=true) {k:IntKind} {n:Int} (hx:a.eval x = .int k n):∃k',a.eval y = .int k' n:=by
 unfold c0r at h
 split at h
 ·simp at h; subst h; exact⟨k,hx⟩
 ·simp at h; subst h
  simp only[Act.eval] at hx ⊢
  cases hx
  exact⟨_,rfl⟩
 ·simp at h
theorem b6H (hE:EnvOk E N) (nm:Names vs (a0t vs ops)) (ho:ops[j]? = some o) (hf:FI N w G st a vs (a0t vs ops)) {t e:TypeId} {l c:Operand} {px:PX} {size:Nat} {z:List PV} (hop:o.op = .makeSlice t l c)
  (hu:P.underlying t=some (.slice e)) (hn:a05 P e=some size) (hz:a38 P e=some z) (hsame:c0r l c=true) (hx:cx E vs ops l=some px) {cf:a0v} (hs:a0N cf (.mkarr size (a0T P e) (P.bytesOf e) z px) st=some (u,st1)) (hk:a2Z N w G a st1 u vs ops j o next):o.wp P a w next Q:=by
 simp only[a0N] at hs
 split at hs
 ·rename_i n hn0
  split at hs
  ·rename_i hc
   obtain⟨h0,hb,hm⟩:=hc
   simp only[Option.some.injEq,Prod.mk.injEq] at hs
   obtain⟨rfl,rfl⟩:=hs
   obtain⟨k,hl⟩:=a1T hE hx hf hn0
   obtain⟨k',hcv⟩:=b8o hsame hl
   obtain⟨i,d,hi,hisz,hs0,hd⟩:=a0n hn
   obtain⟨i2,zv,hi2,hzv,_,hzl,hzR,_⟩:=a19 (N:=N) (w:=w) (fix:=G.fix) (hp:=G.heap) hz
   have:i2=i:=by rw[hi] at hi2; simpa using hi2.symm
   subst this
   subst hisz
   have hzs:zv.cells.size=i2.size:=by have:=hzR.1; simp at this; omega
   have hby:P.bytesOf e=i2.bytes:=by simp[Program.bytesOf,hi]
   rw[hby] at hb
   have hrun:=run_make (P:=P) w t e i2 zv hu hi hzv k k' n n h0 (Int.le_refl _) hb hm
   refine a99 (mob := .cells (madeCells zv.cells (n.toNat*i2.size)) e) (v := .slice (some ⟨w.heap.size,0,none⟩) n.toNat n.toNat) nm ho hf ?_ ?_ (λG' hG hext=>b2d hf ?_ ?_ hG hext) hk
   ·simp[execOp,hop,hl,hcv,hrun]
   ·rintro G' rfl
    refine .rowp _ _ _ _ w.heap.size _ (by simp[GS.more]) (Nat.le_refl _) ⟨e,n.toNat*i2.size,?_,Nat.le_refl _⟩
    simp only[World.shape?,a0S,size_madeCells]
   ·intro k c x hc hx
    rw[b3X] at hx
    have hzlen:z.length=i2.size:=by have:=hzR.1; simp at this; omega
    rw[hzlen] at hx
    split at hx
    ·rename_i hlt
     have hmod:k % i2.size<i2.size:=Nat.mod_lt _ (by omega)
     have hc':c=zv.cells[k % i2.size]! := by
      simp only[madeCells,Array.getElem?_map,Option.map_eq_some_iff] at hc
      obtain⟨a',ha,rfl⟩:=hc
      have:a'=k:=by
       obtain⟨h1,h2⟩:=Array.getElem?_eq_some_iff.1 ha
       simpa using h2.symm
      rw[this,hzs]
     have hcz:zv.cells[k % i2.size]? = some c:=by
      rw[hc']
      have:k % i2.size<zv.cells.size:=by omega
      simp[this]
     refine⟨hzR.2.2 _ c x (by simpa using hcz) hx,hzR.2.1 x (List.mem_of_getElem? hx),?_⟩
     rintro es rfl
     have hz':=hz
     unfold a38 at hz'
     simp only[hi,hzv,Option.bind_eq_some_iff] at hz'
     obtain⟨cs',hcs,hz'⟩:=hz'
     split at hz'
     ·simp at hz'; subst hz'
      exact a3I hcs _ c es (by simpa using hcz) hx
     ·simp at hz'
    ·simp at hx
   ·have hzlen:z.length=i2.size:=by have:=hzR.1; simp at this; omega
    rw[size_madeCells]
    simp[List.length_flatten,hzlen]
  ·simp at hs
 ·simp at hs
theorem b5H (hE:EnvOk E N) (hP:E.P=P) (nm:Names vs (a0t vs ops)) (ho:ops[j]? = some o) (hf:FI N w G st a vs (a0t vs ops)) {t:TypeId} (hop:o.op = .alloc t) (hb:E.bT=some t) {cf:a0v}
  (hs:a0N cf .newbld st=some (u,st1)) (hk:a2Z N w G a st1 u vs ops j o next):o.wp P a w next Q:=by
 simp only[a0N,Option.some.injEq,Prod.mk.injEq] at hs
 obtain⟨rfl,rfl⟩:=hs
 obtain⟨h1,i,h2,h3⟩:=hE.bt t hb
 rw[hP] at h2
 refine a99 (mob := .cells #[.pointer none,.slice none 0 0] t) (v := .pointer (some ⟨w.heap.size,0,none⟩)) nm ho hf ?_ ?_ (λG' hG hext =>?_) hk
 ·simp[execOp,hop,Instr.alloc,zeroValue,typeInfo,h2,h3,newVar,newRow,Value.cells]
 ·rintro G' rfl
  exact .ptr _ _ w.heap.size (by simp[GS.more])
 ·subst hG
  refine⟨?_,.pointer none,.slice none 0 0,by rw[h1]; exact a0S,.inl rfl,.inl ⟨rfl,rfl⟩⟩
  intro o h
  have:=hf.fixlt _ _ h
  omega
theorem b6I (hE:EnvOk E N) (nm:Names vs (a0t vs ops)) (ho:ops[j]? = some o) (hf:FI N w G st a vs (a0t vs ops)) {t:TypeId} {x:Operand} {px:PX} (hop:o.op = .range t x)
  (hu:P.underlying t=some .string) (hx:cx E vs ops x=some px) {cf:a0v} (hs:a0N cf (.range px) st=some (u,st1)) (hk:a2Z N w G a st1 u vs ops j o next):o.wp P a w next Q:=by
 simp only[a0N] at hs
 split at hs
 ·rename_i s hp
  simp only[Option.some.injEq,Prod.mk.injEq] at hs
  obtain⟨rfl,rfl⟩:=hs
  have h:=(a0k hE hx hf hp).1
  generalize hv:a.eval x=v at h
  cases h with
  | str s =>
    refine a99 (mob := .stringIter s 0) (v := .pointer (some ⟨w.heap.size,0,none⟩)) nm ho hf ?_ ?_ (λG' hG hext =>?_) hk
    ·have:=run_range_string (P:=P) w t s hu
     simp only[execOp,hop,hv,Sem.run_bind,Sem.run_map,this,Result.andThen_ok,Sem.run_pure]
     rfl
    ·rintro G' rfl
     exact .ptr _ _ w.heap.size (by simp[GS.more])
    ·subst hG
     refine⟨?_,s,a0S,rfl⟩
     intro o h
     have:=hf.fixlt _ _ h
     omega
 ·simp at hs
theorem c1E (nm:Names vs (a0t vs ops)) (ho:ops[j]? = some o) (hf:FI N w G st a vs (a0t vs ops)) {n b:Nat} {ob ob':PObj} {mob:Obj} {v:Value} (hob:st.heap[n]? = some ob) (hb:G.heap n=some b) (how:G.ow b=some (.hobj n))
  (hnf:∀o,¬G.fix b o) (hrun:(execOp a.eval o).run P w = .ok (.value v) { w with heap:=w.heap.setIfInBounds b mob }) (hnc:w.shape? b=none∧a2J w b=none)
  (hR:ObjR N { w with heap:=w.heap.setIfInBounds b mob } G n b ob')
  (hv:SR N { w with heap:=w.heap.setIfInBounds b mob } G (a9j (a3j vs o.dst) j) v u)
  (hk:a2Z N w G a (a3L st n ob') u vs ops j o next):o.wp P a w next Q:=by
 unfold Oper.wp
 rw[hrun]
 let w':World:={ w with heap:=w.heap.setIfInBounds b mob }
 have hblt:b<w.heap.size:=hf.owlt _ _ how
 have hother:∀x,x≠b→w'.heap[x]? = w.heap[x]? := λx hx=>by
  simp only[w',Array.getElem?_setIfInBounds]; rw[if_neg (by omega)]
 have hext:Ext w G w' G:=by
  refine⟨rfl,rfl,rfl,by simp[w'],λx _ hxo=>hother x (by rintro rfl; rw[how] at hxo; simp at hxo),?_,λ_ _ h => .inl h,λ_ h => .inr h,λ_ _ h=>h,.one b (λk _ hk=>hother k hk) (λs hx=>by rw[hnc.1] at hx; simp at hx) (λs hx=>by rw[hnc.2] at hx; simp at hx),rfl⟩
  intro x o' hfx
  have hxb:x≠b:=by rintro rfl; exact hnf _ hfx
  refine⟨hfx,?_⟩
  simp only[World.cell?,hother x hxb]
 have hkeep:a6B (λk=>k = .hobj n) w G w' G:=by
  refine⟨?_,λ_ _ h=>h⟩
  intro x k hx hnk
  have hxb:x≠b:=by rintro rfl; rw[how] at hx; simp at hx; exact hnk hx.symm
  exact⟨hx,hother x hxb,λ_ h=>h⟩
 have hf1:FI N w' G (a3L st n ob') a vs (a0t vs ops):=by
  refine⟨hf.len,λi t' u' h1 h2=>(hf.var i t' u' h1 h2).keep hext hkeep (by simp) (by simp),λi t' u' h1 h2=>(hf.loc i t' u' h1 h2).keep hext hkeep (by simp) (by simp),hf.tv,hf.tl,hf.defers,hf.gen,?_,?_,?_,?_⟩
  ·intro b' k hb'; simpa[w'] using hf.owlt _ _ hb'
  ·intro b' k hb'; simpa[w'] using hf.fixlt _ _ hb'
  ·exact hf.heap.keepBut hext hkeep (λm k hne=>⟨by simp; omega,by simp⟩) (λ_ => .inr ⟨b,hb,how,hR⟩)
  ·intro m b' h; have:=hf.hdom _ _ h; simpa[a3L] using this
 exact hk _ w' G (hf1.put nm (a17 ho) hv) hext (a1v _ _ _)
theorem b8p (hE:EnvOk E N) (nm:Names vs (a0t vs ops)) (ho:ops[j]? = some o) (hf:FI N w G st a vs (a0t vs ops)) {x:Operand} {px:PX} (hop:o.op = .next x true)
  (hx:cx E vs ops x=some px) {cf:a0v} (hs:a0N cf (.next px) st=some (u,st1)) (hk:a2Z N w G a st1 u vs ops j o next):o.wp P a w next Q:=by
 simp only[a0N] at hs
 split at hs
 ·rename_i n hp
  have h:=(a0k hE hx hf hp).1
  split at hs
  ·rename_i s pos hob
   generalize hv:a.eval x=v at h
   cases h with
   | ptr _ _ b hb =>
     rcases hf.heap.1 n _ hob with e|⟨b',h1,h2,h3,s',h4,h5⟩
     ·simp at e
     have:b'=b:=by rw[hb] at h1; simpa using h1.symm
     subst this
     subst h5
     have hsz:s'.data.toList.length=s'.size:=Array.length_toList
     have hs':(⟨s'.data.toList.toArray⟩:ByteArray)=s':=by cases s'; simp
     rw[hsz,hs'] at hs
     have hblt:b'<w.heap.size:=hf.owlt _ _ h2
     split at hs
     ·rename_i hlt
      simp only[Option.some.injEq,Prod.mk.injEq] at hs
      obtain⟨rfl,rfl⟩:=hs
      refine c1E (ob' := .siter s'.data.toList (pos+(Utf8.decode s' pos).2)) (mob := .stringIter s' (pos+(Utf8.decode s' pos).2)) (v := .tuple #[.bool true,goInt pos,.int .i32 (Utf8.decode s' pos).1]) nm ho hf hob hb h2 h3 ?_ (by simp[World.shape?,a2J,h4]) ⟨h3,s',?_,rfl⟩ (SR.of_pure ?_ rfl) hk
      ·simp[execOp,hop,hv,Instr.next,getObj,setObj,Sem.run,Result.andThen,h4,hlt,goInt]
      ·simp[hblt]
      ·refine .tuple _ _ rfl ?_
       intro i c p hc hp
       match i with
       | 0=>simp at hc hp; subst hc hp; exact .bool _
       | 1=>simp at hc hp; subst hc hp; exact .int _ _
       | 2=>simp at hc hp; subst hc hp; exact .int _ _
       | n+3=>simp at hc
     ·rename_i hlt
      simp only[Option.some.injEq,Prod.mk.injEq] at hs
      obtain⟨rfl,rfl⟩:=hs
      refine a0l (v := .tuple #[.bool false]) nm ho hf ?_ (SR.of_pure ?_ rfl) hk
      ·simp[execOp,hop,hv,Instr.next,getObj,Sem.run,Result.andThen,h4,hlt]
      ·refine .tuple _ _ rfl ?_
       intro i c p hc hp
       match i with
       | 0=>simp at hc hp; subst hc hp; exact .bool _
       | n+1=>simp at hc
  ·simp at hs
 ·simp at hs
theorem b91 (hE:EnvOk E N) (nm:Names vs (a0t vs ops)) (ho:ops[j]? = some o) (hf:FI N w G st a vs (a0t vs ops)) {src dst e:TypeId} {x:Operand} {px:PX} (hop:o.op = .convert src dst x) (hdst:a3j vs o.dst≠.n)
  (hs1:P.underlying src=some .string) (hd:P.underlying dst=some (.slice e)) (he:P.underlying e=some (.int .u8)) (hx:cx E vs ops x=some px) {cf:a0v} (hs:opv cf (.s2b px) st=some (u,st1)) (hk:a2Z N w G a st1 u vs ops j o next):o.wp P a w next Q:=by
 simp only[opv] at hs
 split at hs
 ·rename_i s hp
  split at hs
  ·rename_i hlen
   simp only[Option.some.injEq,Prod.mk.injEq] at hs
   obtain⟨rfl,rfl⟩:=hs
   have h:=(a0k hE hx hf hp).1
   generalize hv:a.eval x=v at h
   cases h with
   | str s =>
     have hsz:s.data.toList.length=s.size:=Array.length_toList
     have hrun:=Lib.run_convert_string_bytes (P:=P) w src dst e s hs1 hd he
     unfold Oper.wp
     have hrun':(execOp a.eval o).run P w = .ok (.value (.slice (some ⟨w.heap.size,0,none⟩) s.size (grownCap w s.size 0 e))) (Lib.bytesWorld w e s):=by
      simp[execOp,hop,hv,hrun]
     rw[hrun']
     have hnc:s.size≤grownCap w s.size 0 e:=grownCap_ge w s.size 0 e
     let G':GS:={ G with fix:=λb o=>G.fix b o∨(b=w.heap.size∧o<s.size),ow:=λb=>if b=w.heap.size then some (a9j (a3j vs o.dst) j) else G.ow b }
     have hsize:=Lib.bytesWorld_size w e s
     have hext:Ext w G (Lib.bytesWorld w e s) G':=by
      refine⟨?_,?_,?_,by omega,λb hb _=>Lib.bytesWorld_at_old w e s b hb,λb o h=>⟨.inl h,Lib.bytesWorld_old w e s ⟨b,o,none⟩ (hf.fixlt _ _ h)⟩,?_,?_,λ_ _ h=>h,.same λk hk=>Lib.bytesWorld_at_old w e s k hk,rfl⟩
      ·simp[Lib.bytesWorld,World.freeze,World.alloc,World.drew,-World.alloc_eq,-World.drew_eq]
      ·simp[Lib.bytesWorld,World.freeze,World.alloc,World.drew,-World.alloc_eq,-World.drew_eq]
      ·simp[Lib.bytesWorld,World.freeze,World.alloc,World.drew,-World.alloc_eq,-World.drew_eq]
      ·rintro b o (h|h)
       ·exact .inl h
       ·exact .inr (.inl (by omega))
      ·intro b hb
       simp only[G'] at hb
       split at hb
       ·exact .inl (by omega)
       ·exact .inr hb
     have hkeep:a6B (λk=>k=a9j (a3j vs o.dst) j) w G (Lib.bytesWorld w e s) G':=by
      refine⟨?_,λ_ _ h=>h⟩
      intro b k hb _
      have hlt:=hf.owlt _ _ hb
      refine⟨?_,Lib.bytesWorld_at_old w e s b hlt,?_⟩
      ·simp only[G']; rw[if_neg (by omega)]; exact hb
      ·rintro o (h|h)
       ·exact h
       ·omega
     have hR:=b5w (N:=N) (w:=Lib.bytesWorld w e s) G'.fix G'.heap s
     have hl:(a3N s.data.toList).length=s.size:=by rw[b6x]; exact hsz
     have how':∀b k,G'.ow b=some k→b<(Lib.bytesWorld w e s).heap.size:=by
      intro b k hb
      simp only[G'] at hb
      split at hb
      ·omega
      ·have:=hf.owlt _ _ hb; omega
     have hfx':∀b o,G'.fix b o→b<(Lib.bytesWorld w e s).heap.size:=by
      rintro b o (h|h)
      ·have:=hf.fixlt _ _ h; omega
      ·omega
     have hvr:∀own,VR N (Lib.bytesWorld w e s) G'.fix G'.heap (.slice (some ⟨w.heap.size,0,none⟩) s.size (grownCap w s.size 0 e)) (.list own (a3N s.data.toList)):=by
      intro own
      have hm:=b3P (own:=own) (b:=w.heap.size) (off:=0) (cap:=grownCap w s.size 0 e) hR (by rw[hl]; exact hnc) ?_
      ·rw[hl] at hm; exact hm
      ·intro k u' hu
       have hk:k<s.size:=by have:=(List.getElem?_eq_some_iff.1 hu).1; rw[byteCells_length] at this; exact this
       rw[Nat.zero_add]
       refine⟨?_,.inr ⟨rfl,hk⟩⟩
       rw[Lib.bytesWorld_cell w e s k hk]
       simp only[byteCells,List.getElem?_map,Option.map_eq_some_iff] at hu
       obtain⟨b,hb,rfl⟩:=hu
       simp[List.getD,hb]
     refine hk _ _ G' (hf.extDst nm (a17 ho) hdst hext hkeep (λg b h=>hf.gen g b h) how' hfx' rfl ?_) hext (a1v _ _ _)
     cases he0:s.data.toList.isEmpty with
     | true=>exact SR.of_pure (hvr false) rfl
     | false =>
       refine⟨hvr true,?_⟩
       have h0:0<s.size:=by
        rw[← hsz]
        cases hx:s.data.toList with
        | nil=>rw[hx] at he0; simp at he0
        | cons=>simp
       refine .inr ⟨by simp[G'],1,Lib.bytesCells w e s,e,hR.sz,⟨_,Lib.bytesWorld_at_new w e s,λo ho h=>by simp at h; omega⟩,?_,h0,?_⟩
       ·have:s.data.size=s.size:=rfl
        simp only[Lib.bytesCells,Array.size_append,Array.size_map,Array.size_replicate]
        omega
       ·rintro o' ho' (h|h)
        ·have:=hf.fixlt _ _ h; simp at this
        ·simp at ho'; omega
  ·simp at hs
 ·simp at hs
theorem b3c {size:Nat}:∀{xs:List PV},(∀e∈xs,e.cells.length=size)→(xs.flatMap PV.cells).length=xs.length*size∧∀(i:Nat) (e:PV),xs[i]? = some e→∀k,k<size→(xs.flatMap PV.cells)[i*size+k]? = e.cells[k]?
 | [],_=>by simp
 | x :: xs, h => by
   obtain⟨h1,h2⟩:=b3c (xs:=xs) (λe he=>h e (List.mem_cons_of_mem _ he))
   have hx:=h x (List.mem_cons_self ..)
   refine⟨by simp only[List.flatMap_cons,List.length_append,h1,hx,List.length_cons,Nat.add_mul,Nat.one_mul]; omega,?_⟩
   intro i e he k hk
   rw[List.flatMap_cons]
   cases i with
   | zero =>
     simp at he; subst he
     rw[Nat.zero_mul,Nat.zero_add,List.getElem?_append_left (by omega)]
   | succ i =>
     rw[Nat.add_mul,Nat.one_mul,List.getElem?_append_right (by omega),hx]
     have:=h2 i e (by simpa using he) k hk
     rw[show i*size+size+k - size=i*size+k by omega]
     exact this
theorem ListR.flats {fix:Nat→Nat→Prop} {hp:Nat→Option Nat} {size:Nat} {news:List Value} {xs:List PV} (h:ListR N w fix hp size news xs) (hs:size≠0):
  news.length=((xs.flatMap PV.cells).map dem).length∧∀(k:Nat) (c:Value) (x:PV),news[k]? = some c→((xs.flatMap PV.cells).map dem)[k]? = some x→VR N w fix hp c x∧x.flat=true∧∀es,x≠.list true es:=by
 obtain⟨h1,h2⟩:=b3c h.sz
 refine⟨by rw[List.length_map,h1,h.len],?_⟩
 intro k c x hc hx
 simp only[List.getElem?_map,Option.map_eq_some_iff] at hx
 obtain⟨y,hy,rfl⟩:=hx
 have hk:k<xs.length*size:=by rw[← h1]; exact(List.getElem?_eq_some_iff.1 hy).1
 have hi:k / size<xs.length:=by rw[Nat.div_lt_iff_lt_mul (by omega)]; exact hk
 have hm:k % size<size:=Nat.mod_lt _ (by omega)
 have he:k / size*size+k % size=k:=by rw[Nat.mul_comm]; exact Nat.div_add_mod k size
 have h3:=h2 (k / size) xs[k / size] (List.getElem?_eq_getElem hi) (k % size) hm
 rw[he,hy] at h3
 refine⟨(h.vr (k / size) _ (List.getElem?_eq_getElem hi) (k % size) c y (by rw[he]; exact hc) h3.symm).dem,?_,?_⟩
 ·rw[a6A]
  exact h.flat _ (List.getElem_mem hi) y (List.mem_of_getElem? h3.symm)
 ·intro es e; cases y<;>simp[dem] at e
theorem b3d (y:PV) (es:List PV):dem y≠.list true es:=by intro e; cases y<;>simp[dem] at e
theorem a7S {sz:Nat} {agg:Bool} {cs:List PV}:∀{n off:Nat} {es:List PV},a3A sz agg cs n off=some es→es.length=n∧∀(i:Nat) (e:PV),es[i]? = some e→a0a sz agg cs (off+i*sz)=some e
 | 0,off,es,h=>by simp[a3A] at h; subst h; simp
 | n + 1, off, es, h => by
   simp only[a3A,Option.bind_eq_some_iff,Option.map_eq_some_iff] at h
   obtain⟨e,h1,es',h2,rfl⟩:=h
   obtain⟨k1,k2⟩:=a7S h2
   refine⟨by simp[k1],?_⟩
   intro i x hx
   cases i with
   | zero=>simp at hx; subst hx; simpa using h1
   | succ i =>
     have:=k2 i x (by simpa using hx)
     rw[Nat.add_mul]
     simpa[Nat.add_assoc,Nat.add_comm,Nat.add_left_comm] using this
theorem b5I {sz len:Nat} {agg:Bool} {cs es:List PV} (hfl:∀(k:Nat) (y:PV),cs[k]? = some y→y.flat=true) (hsz:agg=true∨sz=1) (he:a3A sz agg cs len 0=some es):
  es.length=len∧∀(i:Nat) (e:PV),es[i]? = some e→i*sz+sz≤cs.length∧e.cells.length=sz∧∀(j:Nat) (x:PV),e.cells[j]? = some x→∃y,cs[i*sz+j]? = some y∧x=dem y∧j<sz:=by
 obtain⟨e1,e2⟩:=a7S he
 refine⟨e1,?_⟩
 intro i e hi
 have:=e2 i e hi
 rw[Nat.zero_add] at this
 unfold a0a at this
 split at this
 ·split at this
  ·rename_i hle
   simp only[Option.some.injEq] at this; subst this
   refine⟨hle,by simp[PV.cells]; omega,?_⟩
   intro j x hx
   simp only[PV.cells,List.getElem?_map,Option.map_eq_some_iff] at hx
   obtain⟨y,hy,rfl⟩:=hx
   rw[List.getElem?_take] at hy
   split at hy
   ·rw[List.getElem?_drop] at hy
    exact⟨y,hy,rfl,by assumption⟩
   ·simp at hy
  ·simp at this
 ·rename_i hagg
  have h1:sz=1:=by rcases hsz with h|h; exact absurd h (by simpa using hagg); exact h
  subst h1
  split at this
  ·rename_i y hy
   have hlt:i*1<cs.length:=(List.getElem?_eq_some_iff.1 hy).1
   have hfl:=hfl _ y hy
   have hcp:e=dem y∧y.cells=[y]:=by
    cases y<;>simp_all [cp,dem,PV.cells,PV.flat]
   obtain⟨rfl,_⟩:=hcp
   have hdc:(dem y).cells=[dem y]:=by cases y<;>simp_all [dem,PV.cells,PV.flat]
   refine⟨by omega,by rw[hdc]; rfl,?_⟩
   intro j x hx
   rw[hdc] at hx
   cases j with
   | zero=>simp at hx; subst hx; exact⟨y,hy,rfl,by omega⟩
   | succ j=>simp at hx
  ·simp at this
theorem b7j {ts tx e ty:TypeId} {size:Nat} {s x:Operand} {base:Option Addr} (hv:a.eval s = .slice base 0 0) (hsrc:Src P size tx (a.eval x) 0 [] w) (hts:P.underlying ts=some (.slice e)) {i:TypeInfo} (hi:P.info? e=some i) (hsz:i.size=size):
  (Builtin.append_ #[ts,tx] ty #[a.eval s,a.eval x]).run P w = .ok (.slice base 0 0) w:=by
 subst hsz
 rw[hv]
 rcases hsrc.kind with⟨e'',hk'⟩|hk'<;>cases base <;>
  simp[Builtin.append_,run_underlying hts,run_underlying hk',Go.sizeOf,typeInfo,hi,hsrc.len,hsrc.cells,storeCells]
theorem b7k (nm:Names vs (a0t vs ops)) (ho:ops[j]? = some o) (hf:FI N w G st a vs (a0t vs ops)) {heap1:List PObj} (hh1:HR N w G heap1) (hlen1:heap1.length=st.heap.length) {v:Value} {CS:Array Value} {e:TypeId} {ps:List PV} {sz len cap:Nat} {agg:Bool}
  (hrun:(execOp a.eval o).run P w = .ok (.value (.slice (some ⟨w.heap.size,0,none⟩) len cap)) (w.drew.alloc (.cells CS e))) (hcap:len≤cap) (hCS:CS.size=cap*sz) (hps:ps.length≤CS.size)
  (hR:∀(k:Nat) (c:Value) (x:PV),CS[k]? = some c→ps[k]? = some x→VR N w G.fix G.heap c x∧x.flat=true∧∀es,x≠.list true es)
  (hk:a2Z N w G a { st with heap:=heap1++[.cells ps] } (.rowp st.heap.length sz agg len) vs ops j o next):o.wp P a w next Q:=by
 unfold Oper.wp
 rw[hrun]
 let w':World:=w.drew.alloc (.cells CS e)
 let G':GS:=G.more w.heap.size st.heap.length
 have hext:Ext w G w' G':=by
  refine⟨rfl,rfl,rfl,by simp[w'],λb hb _=>a0q (w:=w.drew) hb,λb o h=>⟨h,a2a (w:=w.drew) (hf.fixlt _ _ h)⟩,λ_ _ h => .inl h,?_,?_,.same λk hk=>a0q (w:=w.drew) hk,rfl⟩
  ·intro b hb
   by_cases hlt:b<w.heap.size
   ·refine .inr ?_
    simp only[G',GS.more] at hb
    rw[if_neg (by omega)] at hb
    exact hb
   ·exact .inl (by omega)
  ·intro n b h
   have:=hf.hdom _ _ h
   simp only[G',GS.more]
   rw[if_neg (by omega)]; exact h
 have hkeep:a6B (λ_=>False) w G w' G':=by
  refine⟨?_,λ_ _ h=>h⟩
  intro b k hb _
  have hlt:=hf.owlt _ _ hb
  refine⟨?_,a0q (w:=w.drew) hlt,λ_ h=>h⟩
  simp only[G',GS.more]
  rw[if_neg (by omega)]; exact hb
 have hobj:ObjR N w' G' st.heap.length w.heap.size (.cells ps):=by
  refine⟨λo h=>by have:=hf.fixlt _ _ h; omega,CS,e,a0S (w:=w.drew),hps,?_⟩
  intro k c x hc hx
  obtain⟨h1,h2,h3⟩:=hR k c x hc hx
  refine⟨h1.ext hext,h2,?_⟩
  split
  ·exact absurd rfl (h3 _)
  ·trivial
 have hf1:FI N w' G' { st with heap:=heap1++[.cells ps] } a vs (a0t vs ops):=by
  refine⟨hf.len,λi t u h1 h2=>(hf.var i t u h1 h2).keep hext hkeep (λh=>h) (λ_ _ _ h=>h),λj t u h1 h2=>(hf.loc j t u h1 h2).keep hext hkeep (λh=>h) (λ_ _ _ h=>h),hf.tv,hf.tl,(hf.defers.trans hext.df.symm),hf.gen,?_,?_,?_,?_⟩
  ·intro b k hb
   simp only[G',GS.more] at hb
   split at hb
   ·simp[w']; omega
   ·have:=hf.owlt _ _ hb; simp[w']; omega
  ·intro b o h
   have:=hf.fixlt _ _ h; simp[w']; omega
  ·exact hh1.push hext hkeep (λ_ _ _=>⟨λh=>h,λh=>h⟩) (.inr ⟨w.heap.size,by simp[G',GS.more,hlen1],by simp[G',GS.more,hlen1],by rw[hlen1]; exact hobj⟩)
  ·intro n b h
   simp only[G',GS.more] at h
   split at h
   ·simp; omega
   ·have:=hf.hdom _ _ h; simp; omega
 refine hk _ w' G' (hf1.put nm (a17 ho) (SR.of_pure (.rowp _ _ _ _ w.heap.size cap (by simp[G',GS.more]) hcap ⟨e,cap*sz,?_,Nat.le_refl _⟩) rfl)) hext (a1v _ _ _)
 have h1:w'.heap[w.heap.size]? = some (.cells CS e):=a0S (w:=w.drew)
 simp only[World.shape?,h1,hCS]
theorem b8q (hE:EnvOk E N) (nm:Names vs (a0t vs ops)) (ho:ops[j]? = some o) (hf:FI N w G st a vs (a0t vs ops)) {ts tx e e':TypeId} {size:Nat} {z:List PV} {s x:Operand} {ps px:PX}
  (hop:o.op = .call { callee := .builtin .append,args := #[s,x],argTypes := #[ts,tx] }) (hts:P.underlying ts=some (.slice e)) (htx:P.underlying tx=some (.slice e')) (hn:a05 P e=some size) (hz:a38 P e=some z)
  (hs':cx E vs ops s=some ps) (hx:cx E vs ops x=some px) {cf:a0v} (hs:a0N cf (.happ size (a0T P e) (P.bytesOf e) ps px) st=some (u,st1)) (hk:a2Z N w G a st1 u vs ops j o next):o.wp P a w next Q:=by
 obtain⟨i,d,hi,hisz,hs0,hd⟩:=a0n hn
 obtain⟨i2,zv,hi2,hzv,_,hzl,hzR,_⟩:=a19 (N:=N) (w:=w) (fix:=G.fix) (hp:=G.heap) hz
 have:i2=i:=by rw[hi] at hi2; simpa using hi2.symm
 subst this
 subst hisz
 have hzs:zv.cells.size=i2.size:=by have:=hzR.1; simp at this; omega
 have hby:P.bytesOf e=i2.bytes:=by simp[Program.bytesOf,hi]
 have hop':∀v w',(Builtin.append_ #[ts,tx] o.type #[a.eval s,a.eval x]).run P w = .ok v w'→(execOp a.eval o).run P w = .ok (.value v) w':=by
  intro v w' hr
  simp[execOp,hop,resolve,invoke,builtin,hr]
 have src:∀{xs:List PV},b04 st px=some xs→a0W i2.size xs=true→∃news,ListR N w G.fix G.heap i2.size news xs∧Src P i2.size tx (a.eval x) xs.length news w:=by
  intro xs hro hh
  unfold b04 at hro
  split at hro
  ·rename_i n sz agg len hrd
   split at hro
   ·rename_i hag
    simp only[Option.bind_eq_some_iff] at hro
    obtain⟨cs,hg,hels⟩:=hro
    have hvx:=(a0k hE hx hf hrd).1
    generalize hv:a.eval x=v at hvx
    cases hvx with
    | rowp _ _ _ _ b cap hb hcap hsh =>
      obtain⟨ho1,ho2,cv,T,hh',hl,hcr⟩:=a9o hf hg hb
      have hfl:∀(k:Nat) (y:PV),cs[k]? = some y→y.flat=true:=λk y hy=>by
       have hlt:k<cv.size:=by have:=(List.getElem?_eq_some_iff.1 hy).1; omega
       exact(hcr k cv[k] y (by simp[hlt]) hy).2.1
      obtain⟨e1,e2⟩:=b5I hfl hag hels
      by_cases hx0:xs=[]
      ·subst hx0
       simp only[List.length_nil] at e1
       subst e1
       exact⟨[],⟨by simp,by simp,by simp,by simp⟩,Src.ofSlice w htx ⟨b,0,none⟩ 0 cap [] (by simp) (by simp) (by simp)⟩
      ·have hsz:sz=i2.size:=by
        cases xs with
        | nil=>exact absurd rfl hx0
        | cons y ys =>
          have h1:=(e2 0 y rfl).2.1
          simp[a0W] at hh
          omega
       subst hsz
       have hpos:0<xs.length:=List.length_pos_iff.2 hx0
       have hlast:=(e2 (xs.length - 1) (xs[xs.length - 1]'(by omega)) (List.getElem?_eq_getElem (by omega))).1
       have hend:xs.length*i2.size≤cs.length:=by
        have:xs.length=(xs.length - 1)+1:=by omega
        rw[this,Nat.add_mul,Nat.one_mul]; exact hlast
       let news:=cv.toList.take (xs.length*i2.size)
       have hnl:news.length=xs.length*i2.size:=by simp only[news,List.length_take,Array.length_toList]; omega
       have hng:∀(k:Nat) (u:Value),news[k]? = some u→cv[k]? = some u:=by
        intro k u hu
        simp only[news,List.getElem?_take] at hu
        split at hu
        ·simpa using hu
        ·simp at hu
       have hL:ListR N w G.fix G.heap i2.size news xs:=by
        refine⟨hnl,?_,?_,?_⟩
        ·intro e he
         obtain⟨i,hi⟩:=List.mem_iff_getElem?.1 he
         exact(e2 i e hi).2.1
        ·intro e he y hy
         obtain⟨i,hi⟩:=List.mem_iff_getElem?.1 he
         obtain⟨j,hj⟩:=List.mem_iff_getElem?.1 hy
         obtain⟨z,hz,rfl,_⟩:=(e2 i e hi).2.2 j y hj
         rw[a6A]; exact hfl _ z hz
        ·intro i e hi k c y hc hy
         obtain⟨z,hz,rfl,_⟩:=(e2 i e hi).2.2 k y hy
         exact(hcr _ c z (hng _ _ hc) hz).1.dem
       refine⟨news,hL,?_⟩
       rw[← e1]
       exact Src.ofSlice w htx ⟨b,0,none⟩ xs.length cap news hnl (λj u hu=>by
        rw[a1X]
        have:=hng j u hu
        simp only[World.cell?,hh',Nat.zero_add]
        simpa using this) (hL.one hs0)
   ·simp at hro
  rotate_left
  ·simp at hro
  rename_i p0 _ hrd
  have hrow:=hro
  clear hro
  have hvx:=(a0k hE hx hf hrd).1.row hrow
  obtain⟨news,hRx,hcx⟩:=a97 hvx hh
  refine⟨news,hRx,?_⟩
  rcases hcx with⟨h1,h2,h3⟩|⟨ad,cap,h1,h2,h3⟩|⟨b,off,cap,h1,h2,h3⟩
  ·rw[h1,h2,h3]; exact Src.ofNil w htx 0
  ·rw[h1,h2,h3]; exact Src.ofSlice w htx ad 0 cap [] (by simp) (by simp) (by simp)
  ·rw[h1]
   exact Src.ofSlice w htx ⟨b,off,none⟩ xs.length cap news hRx.len (λj u hu=>by rw[a1X]; exact(h3 j u hu).1) (hRx.one hs0)
 have grow:∀{heap1:List PObj} {xs oldps:List PV} {news olds:List Value} {base:Option Addr} {len cap:Nat},HR N w G heap1→heap1.length=st.heap.length→ListR N w G.fix G.heap i2.size news xs→Src P i2.size tx (a.eval x) xs.length news w→a.eval s = .slice base len cap →
   (Builtin.firstCells i2.size len (.slice base len cap)).run P w.drew = .ok olds.toArray w.drew→olds.length=len*i2.size→oldps.length=olds.length→(∀(k:Nat) (c:Value) (y:PV),olds[k]? = some c→oldps[k]? = some y→VR N w G.fix G.heap c y∧y.flat=true∧∀es,y≠.list true es) →
   cap<len+xs.length→len+xs.length≤2147483648→i2.bytes≤16384 →
   a2Z N w G a { st with heap:=heap1++[.cells (oldps++(xs.flatMap PV.cells).map dem)] } (.rowp st.heap.length i2.size (a0T P e) (len+xs.length)) vs ops j o next→o.wp P a w next Q:=by
  intro heap1 xs oldps news olds base len cap hh1 hl1 hRx hsrc hv hold hol hop1 hoR hcap hb1 hb2 hk
  have hbytes:(len+xs.length)*i2.bytes≤140737488355328:=Nat.le_trans (Nat.mul_le_mul hb1 hb2) (by decide)
  have hrun:=run_append_grow_src (P:=P) w ts tx o.type e i2 zv hts hi hzv base len cap olds hold (a.eval x) xs.length news hsrc hcap (by omega) (growslice_fits hcap hbytes)
  rw[← hv] at hrun
  obtain⟨hfl,hfR⟩:=hRx.flats hs0
  have hnc:=grownCap_ge w (len+xs.length) cap e
  refine b7k (v:=undef) (sz:=i2.size) (cap:=grownCap w (len+xs.length) cap e) nm ho hf hh1 hl1 (hop' _ _ hrun) hnc ?_ ?_ ?_ hk
  ·simp only[Array.size_append,List.size_toArray,size_zeroCells,hzs,hol,hRx.len,List.length_append]
   rw[Nat.sub_mul,Nat.add_mul]
   have:(len+xs.length)*i2.size≤grownCap w (len+xs.length) cap e*i2.size:=Nat.mul_le_mul_right _ hnc
   rw[Nat.add_mul] at this
   omega
  ·simp only[Array.size_append,List.size_toArray,List.length_append,hop1]
   omega
  ·intro k c y hc hy
   by_cases hk1:k<olds.length
   ·rw[List.getElem?_append_left (by omega)] at hy
    rw[Array.getElem?_append_left (by simp; omega)] at hc
    simp only[List.getElem?_toArray] at hc
    rw[List.getElem?_append_left hk1] at hc
    exact hoR k c y hc hy
   ·rw[List.getElem?_append_right (by omega)] at hy
    have hlt:k - olds.length<news.length:=by
     rw[hfl,← hop1]; exact(List.getElem?_eq_some_iff.1 hy).1
    rw[Array.getElem?_append_left (by simp; omega)] at hc
    simp only[List.getElem?_toArray] at hc
    rw[List.getElem?_append_right (by omega)] at hc
    rw[hop1] at hy
    exact hfR _ c y hc hy
 simp only[a0N] at hs
 rw[hby] at hs
 split at hs
 ·rename_i xs n sz ag len hro hraw
  split at hs
  ·rename_i cs hob
   split at hs
   ·rename_i hc
    obtain⟨rfl,rfl,hcl,hh2,hb1,hb2⟩:=hc
    simp only[Option.some.injEq,Prod.mk.injEq] at hs
    obtain⟨rfl,rfl⟩:=hs
    obtain⟨news,hRx,hsrc⟩:=src hro hh2
    have hvs:=((a2X hE hs' hf hraw).read (r := .rowp n i2.size (a0T P e) len) rfl).1
    generalize hv:a.eval s=v at hvs
    cases hvs with
    | rowp _ _ _ _ b cap hb hcap hsh =>
      obtain⟨T',m,hsh1,hsh2⟩:=hsh
      obtain⟨ho1,ho2,cv,T,hh,hl,hcr⟩:=a9o hf (show a57 st n=some cs by simp[a57,hob]) hb
      have hm:m=cv.size:=by simp only[World.shape?,hh,Option.some.injEq,Prod.mk.injEq] at hsh1; exact hsh1.2.symm
      subst hm
      have hcl0:=hcl
      obtain⟨O,hO⟩:∃O,(cs.take (len*i2.size)).map dem=O:=⟨_,rfl⟩
      rw[hO] at hk
      have hcl:O.length=len*i2.size:=by rw[← hO]; simp; omega
      have holdR:∀(k:Nat) (c:Value) (y:PV),(cv.toList.take (len*i2.size))[k]? = some c→O[k]? = some y→VR N w G.fix G.heap c y∧y.flat=true∧∀es,y≠.list true es:=by
       intro k c y hc hy
       rw[← hO] at hy
       simp only[List.getElem?_map,Option.map_eq_some_iff] at hy
       obtain⟨y0,hy0,rfl⟩:=hy
       have hy0:cs[k]? = some y0:=by
        rw[List.getElem?_take] at hy0
        split at hy0
        ·exact hy0
        ·simp at hy0
       rw[List.getElem?_take] at hc
       split at hc
       ·have:=hcr k c y0 (by simpa using hc) hy0
        exact⟨this.1.dem,by rw[a6A]; exact this.2.1,b3d y0⟩
       ·simp at hc
      have hol:(cv.toList.take (len*i2.size)).length=len*i2.size:=by simp; omega
      have hcells:∀(k:Nat) (u:Value),(cv.toList.take (len*i2.size))[k]? = some u→w.cell? ⟨b,0+k,none⟩=some u:=by
       intro k u hu
       rw[List.getElem?_take] at hu
       split at hu
       ·simp only[World.cell?,hh,Nat.zero_add]; simpa using hu
       ·simp at hu
      by_cases hgrow:cap<len+xs.length
      ·refine grow (heap1:=st.heap.set n .gone) ?_ (by simp) hRx hsrc hv (olds:=cv.toList.take (len*i2.size)) ?_ hol (by rw[hcl,hol]) holdR hgrow hb1 hb2 hk
       ·exact hf.heap.keepBut (K:=λ_=>False) (Ext.refl _ _) ⟨λ_ _ h _=>⟨h,rfl,λ_ h=>h⟩,λ_ _ h=>h⟩ (λ_ _ _=>⟨λh=>h,λh=>h⟩) (λ_ => .inl rfl)
       ·exact run_firstCells_some w.drew _ _ _ _ _ _ hol (λk u hu=>by rw[a1X]; exact hcells k u hu)
      ·
       have hle:len+xs.length≤cap:=by omega
       obtain⟨hfl,hfR⟩:=hRx.flats hs0
       have hfit:len*i2.size+news.length≤cv.size:=by
        rw[hRx.len]
        have:(len+xs.length)*i2.size≤cap*i2.size:=Nat.mul_le_mul_right _ hle
        rw[Nat.add_mul] at this; omega
       let NR:Array Value:=(cv.toList.take (len*i2.size)++news++cv.toList.drop (len*i2.size+news.length)).toArray
       have hNRs:NR.size=cv.size:=by simp only[NR,List.size_toArray,List.length_append,List.length_take,List.length_drop,Array.length_toList]; omega
       have hrun:(Builtin.append_ #[ts,tx] o.type #[a.eval s,a.eval x]).run P w = .ok (.slice (some ⟨b,0,none⟩) (len+xs.length) cap) (w.setRow b NR):=by
        have hst:=a2A P b (len*i2.size) T (0,0) news 0 cv w hh (λo _ h=>by simp at h) (by simpa using hfit) (hRx.one hs0)
        simp only[Nat.add_zero] at hst
        rw[hv]
        rcases hsrc.kind with⟨e'',hk'⟩|hk' <;>
         simp[Builtin.append_,run_underlying hts,run_underlying hk',Go.sizeOf,typeInfo,hi,hsrc.len,hle,hsrc.cells,a1X,hst,NR]
       have hblt:b<w.heap.size:=hf.owlt _ _ ho1
       have hother:∀x,x≠b→(w.setRow b NR).heap[x]? = w.heap[x]? := λx hx=>setRow_other w b x _ hx
       let G':GS:={ G with heap:=λm=>if m=st.heap.length then some b else G.heap m,ow:=λx=>if x=b then some (.hobj st.heap.length) else G.ow x }
       have hext:Ext w G (w.setRow b NR) G':=by
        refine⟨rfl,rfl,rfl,by simp[World.setRow],?_,?_,λ_ _ h => .inl h,?_,?_,a4N hh _ hNRs,rfl⟩
        ·intro y _ hyo
         exact hother y (by rintro rfl; rw[ho1] at hyo; simp at hyo)
        ·intro y o' hfx
         have hyb:y≠b:=by rintro rfl; exact ho2 _ hfx
         exact⟨hfx,by simp only[World.cell?,hother y hyb]⟩
        ·intro y hy
         simp only[G'] at hy
         split at hy
         ·rename_i hyb; exact .inr (by rw[hyb,ho1]; simp)
         ·exact .inr hy
        ·intro m y hy
         have:=hf.hdom _ _ hy
         simp only[G']
         rw[if_neg (by omega)]; exact hy
       have hkeep:a6B (λk=>k = .hobj n) w G (w.setRow b NR) G':=by
        refine⟨?_,λ_ _ h=>h⟩
        intro y k hy hnk
        have hyb:y≠b:=by rintro rfl; rw[ho1] at hy; simp at hy; exact hnk hy.symm
        refine⟨?_,hother y hyb,λ_ h=>h⟩
        simp only[G']; rw[if_neg hyb]; exact hy
       have hnlt:n<st.heap.length:=(List.getElem?_eq_some_iff.1 hob).1
       have hheap:HR N (w.setRow b NR) G' (st.heap.set n .gone++[.cells (O++(xs.flatMap PV.cells).map dem)]):=by
        refine⟨?_,hf.heap.2.ext hext⟩
        intro m ob hm
        by_cases hml:m<(st.heap.set n .gone).length
        ·rw[List.getElem?_append_left hml,List.getElem?_set] at hm
         split at hm
         ·exact .inl (by simpa[hnlt] using hm.symm)
         ·rename_i hne
          rcases hf.heap.1 m ob hm with rfl|⟨y,h1,h2,h3⟩
          ·exact .inl rfl
          ·exact .inr ⟨y,hext.heap _ _ h1,(hkeep.1 _ _ h2 (by simp; omega)).1,h3.keep h2 hext hkeep (by simp; omega) (by simp)⟩
        ·rw[List.getElem?_append_right (by omega)] at hm
         simp only[List.length_set] at hm hml
         have hm0:m - st.heap.length=0:=by
          cases hx:m - st.heap.length with
          | zero=>rfl
          | succ k=>rw[hx] at hm; simp at hm
         rw[hm0] at hm
         simp at hm
         subst hm
         have hm':m=st.heap.length:=by omega
         subst hm'
         refine .inr ⟨b,by simp[G'],by simp[G'],λo' h=>ho2 o' h,NR,T,setRow_heap w b cv NR T (0,0) hh,?_,?_⟩
         ·simp only[List.length_append]
          rw[← hfl,hcl,hNRs]; exact hfit
         ·intro k c y hc hy
          have hfin:VR N w G.fix G.heap c y∧y.flat=true∧∀es,y≠.list true es:=by
           simp only[NR,List.getElem?_toArray,List.append_assoc] at hc
           by_cases hk1:k<len*i2.size
           ·rw[List.getElem?_append_left (by rw[hcl]; exact hk1)] at hy
            rw[List.getElem?_append_left (by rw[hol]; exact hk1)] at hc
            exact holdR k c y hc hy
           ·rw[List.getElem?_append_right (by rw[hcl]; omega),hcl] at hy
            have hlt:k - len*i2.size<news.length:=by rw[hfl]; exact(List.getElem?_eq_some_iff.1 hy).1
            rw[List.getElem?_append_right (by rw[hol]; omega),hol,List.getElem?_append_left hlt] at hc
            exact hfR _ c y hc hy
          refine⟨hfin.1.ext hext,hfin.2.1,?_⟩
          split
          ·exact absurd rfl (hfin.2.2 _)
          ·trivial
       unfold Oper.wp
       rw[hop' _ _ hrun]
       have hf1:FI N (w.setRow b NR) G' { st with heap:=st.heap.set n .gone++[.cells (O++(xs.flatMap PV.cells).map dem)] } a vs (a0t vs ops):=by
        refine⟨hf.len,λi t u h1 h2=>(hf.var i t u h1 h2).keep hext hkeep (by simp) (by simp),λj t u h1 h2=>(hf.loc j t u h1 h2).keep hext hkeep (by simp) (by simp),hf.tv,hf.tl,hf.defers,hf.gen,?_,?_,hheap,?_⟩
        ·intro y k hy
         simp only[G'] at hy
         split at hy
         ·rename_i hyb; simp[World.setRow,hyb,hblt]
         ·have:=hf.owlt _ _ hy; simpa[World.setRow] using this
        ·intro y o' h; have:=hf.fixlt _ _ h; simpa[World.setRow] using this
        ·intro m y hy
         simp only[G'] at hy
         split at hy
         ·simp; omega
         ·have:=hf.hdom _ _ hy; simp; omega
       refine hk _ _ G' (hf1.put nm (a17 ho) (SR.of_pure (.rowp _ _ _ _ b cap (by simp[G']) hle ⟨T,cv.size,?_,hsh2⟩) rfl)) hext (a1v _ _ _)
       simp only[World.shape?,setRow_heap w b cv NR T (0,0) hh,hNRs]
   ·simp at hs
  ·simp at hs
 ·rename_i xs hro hraw
  have hsr:=a2X hE hs' hf hraw
  obtain⟨hvr,hroom⟩:VR N w G.fix G.heap (a.eval s) (.list true [])∧Room w G (b2v ps) (a.eval s) []:=hsr
  have hform:∃base,a.eval s = .slice base 0 0:=by
   generalize a.eval s=v at hvr hroom
   cases hvr with
   | nils=>exact⟨none,rfl⟩
   | void _ ad cap =>
     rcases hroom with h|⟨_,_,_,_,_,_,_,h,_⟩
     ·subst h; exact⟨_,rfl⟩
     ·simp at h
   | list _ b off len cap sz _ cv hlen hcap _ _ _ _ =>
     simp at hlen; subst hlen
     rcases hroom with h|⟨_,_,_,_,_,_,_,h,_⟩
     ·subst h; exact⟨_,rfl⟩
     ·simp at h
  obtain⟨base,hv⟩:=hform
  split at hs
  ·rename_i hx0
   subst hx0
   simp only[Option.some.injEq,Prod.mk.injEq] at hs
   obtain⟨rfl,rfl⟩:=hs
   obtain⟨news,hRx,hsrc⟩:=src hro rfl
   have hn0:news=[]:=List.length_eq_zero_iff.1 (by rw[hRx.len]; simp)
   subst hn0
   refine a0l nm ho hf (hop' _ _ (b7j hv hsrc hts hi rfl)) ?_ hk
   cases base with
   | none=>exact⟨.nils true,True.intro⟩
   | some ad=>exact⟨.void true ad 0,.inl rfl⟩
  ·rename_i hx0
   split at hs
   ·rename_i hc
    obtain⟨hh2,hb1,hb2⟩:=hc
    simp only[Option.some.injEq,Prod.mk.injEq] at hs
    obtain⟨rfl,rfl⟩:=hs
    obtain⟨news,hRx,hsrc⟩:=src hro hh2
    have hpos:0<xs.length:=List.length_pos_iff.2 hx0
    have hold:(Builtin.firstCells i2.size 0 (.slice base 0 0)).run P w.drew = .ok ([]:List Value).toArray w.drew:=by
     cases base with
     | none=>exact run_firstCells_none w.drew _ _ _ _
     | some ad=>exact run_firstCells_some w.drew _ _ _ _ _ [] (by simp) (by simp)
    refine grow (heap1:=st.heap) (oldps:=[]) hf.heap rfl hRx hsrc hv hold (by simp) rfl (by simp) (by omega) (by omega) hb2 ?_
    simpa using hk
   ·simp at hs
 ·rename_i xs hro hraw
  have hvr:VR N w G.fix G.heap (a.eval s) .nils:=((a2X hE hs' hf hraw).read (r := .nils) rfl).1
  have hv:a.eval s = .slice none 0 0:=by
   generalize a.eval s=v at hvr
   cases hvr with
   | nils'=>rfl
  split at hs
  ·rename_i hx0
   subst hx0
   simp only[Option.some.injEq,Prod.mk.injEq] at hs
   obtain⟨rfl,rfl⟩:=hs
   obtain⟨news,hRx,hsrc⟩:=src hro rfl
   have hn0:news=[]:=List.length_eq_zero_iff.1 (by rw[hRx.len]; simp)
   subst hn0
   exact a0l nm ho hf (hop' _ _ (b7j hv hsrc hts hi rfl)) (SR.of_pure .nils' rfl) hk
  ·rename_i hx0
   split at hs
   ·rename_i hc
    obtain⟨hh2,hb1,hb2⟩:=hc
    simp only[Option.some.injEq,Prod.mk.injEq] at hs
    obtain⟨rfl,rfl⟩:=hs
    obtain⟨news,hRx,hsrc⟩:=src hro hh2
    have hpos:0<xs.length:=List.length_pos_iff.2 hx0
    refine grow (heap1:=st.heap) (oldps:=[]) hf.heap rfl hRx hsrc hv (run_firstCells_none w.drew _ _ _ _) (by simp) rfl (by simp) (by omega) (by omega) hb2 ?_
    simpa using hk
   ·simp at hs
 ·simp at hs
theorem b0Q (w:World) (ts tx ty e:TypeId) (i:TypeInfo) (zv:Value) {k0:IntKind} (hts:P.underlying ts=some (.slice e)) (htx:P.underlying tx=some (.int k0)) (hi:P.info? e=some i) (hz:i.zero=some zv) (k:IntKind) (n:Nat)
  (h0:0<n) (hn:n≤2147483648) (hb:i.bytes≤16384):
  (Builtin.append_ #[ts,tx] ty #[.slice none 0 0,.int k n]).run P w = .ok (.slice (some ⟨w.heap.size,0,none⟩) n (grownCap w n 0 e))
   (w.drew.alloc (.cells ((if n*i.size=0 then #[] else Builtin.zeroCells zv.cells n)++Builtin.zeroCells zv.cells (grownCap w n 0 e - n)) e)):=by
 have hbytes:n*i.bytes≤140737488355328:=Nat.le_trans (Nat.mul_le_mul hn hb) (by decide)
 have hfit:=growslice_fits (need:=n) (old:=0) (bytes:=i.bytes) h0 hbytes
 have hfit':¬(281474976710656<Builtin.nextslicecap n 0*i.bytes):=by omega
 have hw:IntKind.i64.wrap (n:Int)=n:=by
  show (if (true&&decide ((n:Int) % 18446744073709551616≥9223372036854775808))=true then(n:Int) % 18446744073709551616 - 18446744073709551616 else(n:Int) % 18446744073709551616)=_
  simp only[Bool.true_and,decide_eq_true_eq]
  split<;>omega
 have h1:¬((n:Int)<0):=by omega
 have h2:¬((281474976710656:Int)<(n:Int)*(i.bytes:Int)):=by
  have:((n*i.bytes:Nat):Int)≤140737488355328:=Int.ofNat_le.2 hbytes
  rw[Int.natCast_mul] at this
  omega
 have h3:¬((9223372036854775807:Int)<(n:Int)):=by omega
 have h4:¬(n=0):=by omega
 by_cases hsz:n*i.size=0
 ·simp[Builtin.append_,run_underlying hts,run_underlying htx,Go.sizeOf,typeInfo,zeroValue,hi,hz,asInt,asIntOf,hw,h1,h2,h3,h4,hfit',Question.forced,newRow,grownCap,Builtin.firstCells,hsz]
 ·simp[Builtin.append_,run_underlying hts,run_underlying htx,Go.sizeOf,typeInfo,zeroValue,hi,hz,asInt,asIntOf,hw,h1,h2,h3,h4,hfit',Question.forced,newRow,grownCap,Builtin.firstCells,hsz]
theorem b6J (hE:EnvOk E N) (nm:Names vs (a0t vs ops)) (ho:ops[j]? = some o) (hf:FI N w G st a vs (a0t vs ops)) {ts tx e:TypeId} {k0:IntKind} {size:Nat} {z:List PV} {s x:Operand} {ps px:PX}
  (hop:o.op = .call { callee := .builtin .append,args := #[s,x],argTypes := #[ts,tx] }) (hts:P.underlying ts=some (.slice e)) (htx:P.underlying tx=some (.int k0)) (hn:a05 P e=some size) (hz:a38 P e=some z)
  (hs':cx E vs ops s=some ps) (hx:cx E vs ops x=some px) {cf:a0v} (hs:a0N cf (.happz size (a0T P e) (P.bytesOf e) z ps px) st=some (u,st1)) (hk:a2Z N w G a st1 u vs ops j o next):o.wp P a w next Q:=by
 obtain⟨i,d,hi,hisz,hs0,hd⟩:=a0n hn
 obtain⟨i2,zv,hi2,hzv,_,hzl,hzR,_⟩:=a19 (N:=N) (w:=w) (fix:=G.fix) (hp:=G.heap) hz
 have:i2=i:=by rw[hi] at hi2; simpa using hi2.symm
 subst this
 subst hisz
 have hzs:zv.cells.size=i2.size:=by have:=hzR.1; simp at this; omega
 have hzlen:z.length=i2.size:=by have:=hzR.1; simp at this; omega
 have hby:P.bytesOf e=i2.bytes:=by simp[Program.bytesOf,hi]
 simp only[a0N] at hs
 rw[hby] at hs
 split at hs
 ·rename_i n hn0 hr0
  split at hs
  ·rename_i hc
   obtain⟨h0,h1,hb⟩:=hc
   simp only[Option.some.injEq,Prod.mk.injEq] at hs
   obtain⟨rfl,rfl⟩:=hs
   obtain⟨k,hl⟩:=a1T hE hx hf hn0
   have hv:a.eval s = .slice none 0 0:=by
    have:=(a0k hE hs' hf hr0).1
    generalize a.eval s=v at this
    cases this
    rfl
   obtain⟨m,rfl⟩:∃m:Nat,n=m:=⟨n.toNat,by omega⟩
   have hrun:=b0Q (P:=P) w ts tx o.type e i2 zv hts htx hi hzv k m (by omega) (by omega) hb
   rw[← hv,← hl] at hrun
   have hrun':(execOp a.eval o).run P w = .ok (.value (.slice (some ⟨w.heap.size,0,none⟩) m (grownCap w m 0 e))) (w.drew.alloc (.cells ((if m*i2.size=0 then #[] else Builtin.zeroCells zv.cells m)++Builtin.zeroCells zv.cells (grownCap w m 0 e - m)) e)):=by
    simp[execOp,hop,resolve,invoke,builtin,hrun]
   have hpos:¬m*i2.size=0:=by
    intro h
    rcases Nat.mul_eq_zero.1 h with h|h<;>omega
   rw[if_neg hpos] at hrun'
   have hnc:=grownCap_ge w m 0 e
   refine b7k (v:=undef) (sz:=i2.size) (cap:=grownCap w m 0 e) nm ho hf hf.heap rfl hrun' hnc ?_ ?_ ?_ hk
   ·simp only[Array.size_append,size_zeroCells,hzs]
    rw[Nat.sub_mul]
    have:m*i2.size≤grownCap w m 0 e*i2.size:=Nat.mul_le_mul_right _ hnc
    omega
   ·simp[List.length_flatten,hzlen,size_zeroCells,hzs]
   ·intro k c y hc hy
    simp only[Int.toNat_natCast] at hy
    rw[b3X,List.length_map,hzlen] at hy
    split at hy
    ·rename_i hlt
     rw[Array.getElem?_append_left (by rw[size_zeroCells,hzs]; exact hlt)] at hc
     have hmod:k % i2.size<i2.size:=Nat.mod_lt _ (by omega)
     have hc':c=zv.cells[k % i2.size]! := by
      simp only[Builtin.zeroCells,Array.getElem?_map,Option.map_eq_some_iff] at hc
      obtain⟨a',ha,rfl⟩:=hc
      have:a'=k:=by
       obtain⟨h1,h2⟩:=Array.getElem?_eq_some_iff.1 ha
       simpa using h2.symm
      rw[this,hzs]
     have hcz:zv.cells[k % i2.size]? = some c:=by
      rw[hc']
      have:k % i2.size<zv.cells.size:=by omega
      simp[this]
     simp only[List.getElem?_map,Option.map_eq_some_iff] at hy
     obtain⟨y0,hy,rfl⟩:=hy
     exact⟨(hzR.2.2 _ c y0 (by simpa using hcz) hy).dem,by rw[a6A]; exact hzR.2.1 y0 (List.mem_of_getElem? hy),b3d y0⟩
    ·simp at hy
  ·simp at hs
 ·simp at hs
theorem b6K (hE:EnvOk E N) (nm:Names vs (a0t vs ops)) (ho:ops[j]? = some o) (hf:FI N w G st a vs (a0t vs ops)) {t e:TypeId} {rest:List TypeId} {size:Nat} {z:List PV} {x:Operand} {px:PX} (hdst:o.dst=none)
  (hop:o.op = .call { callee := .builtin .clear,args := #[x],argTypes:=⟨t::rest⟩ }) (hu:P.underlying t=some (.slice e)) (hn:a05 P e=some size) (hz:a38 P e=some z)
  (hx:cx E vs ops x=some px) {cf:a0v} (hs:a0N cf (.clear size px) st=some (u,st1)) (hk:a2Z N w G a st1 u vs ops j o next):o.wp P a w next Q:=by
 obtain⟨i,d,hi,hisz,hs0,hd⟩:=a0n hn
 obtain⟨i2,zv,hi2,hzv,_,hzl,hzR,_⟩:=a19 (N:=N) (w:=w) (fix:=G.fix) (hp:=G.heap) hz
 have:i2=i:=by rw[hi] at hi2; simpa using hi2.symm
 subst this
 subst hisz
 have hzs:zv.cells.size=i2.size:=by have:=hzR.1; simp at this; omega
 simp only[a0N] at hs
 split at hs
 ·rename_i n sz off hrb
  split at hs
  ·rename_i cs hob
   split at hs
   ·rename_i hc
    obtain⟨rfl,hoff⟩:=hc
    simp only[Option.some.injEq,Prod.mk.injEq] at hs
    obtain⟨rfl,rfl⟩:=hs
    obtain⟨agg,len,hvx⟩:∃agg len,VR N w G.fix G.heap (a.eval x) (.rows n i2.size agg off len):=by
     obtain⟨p,hr,hp⟩:=Option.bind_eq_some_iff.1 hrb
     have hvx:=(a0k hE hx hf hr).1
     cases p<;>simp only[b35,Option.some.injEq,Prod.mk.injEq,reduceCtorEq] at hp
     ·rename_i n' sz' ag ln
      obtain⟨rfl,rfl,rfl⟩:=hp
      generalize a.eval x=v at hvx ⊢
      cases hvx with
      | rowp _ _ _ _ b cap h hcap hsh =>
        obtain⟨T,m,h1,h2⟩:=hsh
        exact⟨ag,ln,.rows _ _ _ 0 _ b 0 cap m T h hcap (.inr (by simp)) h1 (by rw[Nat.zero_add]; exact Nat.le_trans (Nat.mul_le_mul_right _ hcap) h2)⟩
     ·obtain⟨rfl,rfl,rfl⟩:=hp
      exact⟨_,_,hvx⟩
    generalize hv:a.eval x=v at hvx
    cases hvx with
    | rows _ _ _ _ _ b o' cap m T hb hcap hoo hsh hm =>
      obtain⟨ho1,ho2,cv,T',hh,hl,hcr⟩:=a9o hf (show a57 st n=some cs by simp[a57,hob]) hb
      have hmv:m=cv.size:=by simp only[World.shape?,hh,Option.some.injEq,Prod.mk.injEq] at hsh; exact hsh.2.symm
      subst hmv
      have hblt:b<w.heap.size:=hf.owlt _ _ ho1
      obtain⟨NR,hNs,hNk,hrun⟩:∃NR:Array Value,NR.size=cv.size∧(∀k,k<off*i2.size→NR[k]? = cv[k]?)∧(execOp a.eval o).run P w = .ok (.value (.tuple #[])) (w.setRow b NR):=by
       cases len with
       | zero =>
         refine⟨cv,rfl,λ_ _=>rfl,?_⟩
         have hw:w.setRow b cv=w:=by
          have h2:(w.setRow b cv).heap=w.heap:=by
           apply Array.ext_getElem?
           intro k
           by_cases hkb:k=b
           ·subst hkb; rw[setRow_heap w k cv cv T' (0,0) hh,hh]
           ·exact setRow_other w b k _ hkb
          exact congrArg (λh=>{ w with heap:=h }) h2
         rw[hw]
         simp[execOp,hop,hv,resolve,invoke,builtin,Builtin.clear_,run_underlying hu]
       | succ len =>
         have ho:o'=off*i2.size:=by rcases hoo with h|h; exact absurd h (by omega); exact h
         subst ho
         let zs:List Value:=(Builtin.zeroCells zv.cells (len+1)).toList
         have hzl2:zs.length=(len+1)*i2.size:=by simp only[zs,Array.length_toList,size_zeroCells,hzs]
         have hst:=a2A P b (off*i2.size) T' (0,0) zs 0 cv w hh (λo _ h=>by simp at h) (by rw[Nat.add_mul] at hm; simp only[hzl2]; omega) (by
          intro u hu
          simp only[zs,Builtin.zeroCells,Array.toList_map,List.mem_map] at hu
          obtain⟨a',_,rfl⟩:=hu
          have hmod:a' % zv.cells.size<zv.cells.size:=Nat.mod_lt _ (by omega)
          have hcz:zv.cells[a' % zv.cells.size]? = some zv.cells[a' % zv.cells.size]! := by simp[hmod]
          have hzl3:a' % zv.cells.size<z.length:=by have:=hzR.1; simp at this; omega
          have h1:=(hzR.2.2 _ _ z[a' % zv.cells.size] (by simpa using hcz) (List.getElem?_eq_getElem hzl3)).oneCell (hzR.2.1 _ (List.getElem_mem hzl3))
          generalize zv.cells[a' % zv.cells.size]! = c at h1
          cases c<;>first|rfl|simp[oneCell] at h1)
         refine⟨(cv.toList.take (off*i2.size)++zs++cv.toList.drop (off*i2.size+zs.length)).toArray,?_,?_,?_⟩
         ·rw[Nat.add_mul] at hm
          simp only[List.size_toArray,List.length_append,List.length_take,List.length_drop,Array.length_toList,hzl2]; omega
         ·intro k hk
          rw[Nat.add_mul] at hm
          simp only[List.getElem?_toArray,List.append_assoc]
          rw[List.getElem?_append_left (by simp; omega),List.getElem?_take,if_pos hk]
          simp
         ·simp only[zs] at hst
          simp[execOp,hop,hv,resolve,invoke,builtin,Builtin.clear_,run_underlying hu,zeroValue,typeInfo,hi,hzv,hst,zs]
      have hother:∀x,x≠b→(w.setRow b NR).heap[x]? = w.heap[x]? := λx hx=>setRow_other w b x _ hx
      have hext:Ext w G (w.setRow b NR) G:=by
       refine⟨rfl,rfl,rfl,by simp[World.setRow],?_,?_,λ_ _ h => .inl h,λ_ h => .inr h,λ_ _ h=>h,a4N hh _ hNs,rfl⟩
       ·intro x _ hxo
        exact hother x (by rintro rfl; rw[ho1] at hxo; simp at hxo)
       ·intro x o' hfx
        refine⟨hfx,?_⟩
        have hxb:x≠b:=by rintro rfl; exact ho2 _ hfx
        simp only[World.cell?,hother x hxb]
      have hkeep:a6B (λk=>k = .hobj n) w G (w.setRow b NR) G:=by
       refine⟨?_,λ_ _ h=>h⟩
       intro x k hxk hnk
       refine⟨hxk,hother x ?_,λ_ h=>h⟩
       rintro rfl
       rw[ho1] at hxk
       simp at hxk
       exact hnk hxk.symm
      have hf2:FI N (w.setRow b NR) G { st with heap:=st.heap.set n (.cells (cs.take (off*i2.size))) } a vs (a0t vs ops):=by
       refine⟨hf.len,λi t' u' h1 h2=>(hf.var i t' u' h1 h2).keep hext hkeep (by simp) (by simp),λi t' u' h1 h2=>(hf.loc i t' u' h1 h2).keep hext hkeep (by simp) (by simp),hf.tv,hf.tl,hf.defers,hf.gen,?_,?_,?_,?_⟩
       ·intro x k hx; simpa[World.setRow] using hf.owlt x k hx
       ·intro x o' hx; simpa[World.setRow] using hf.fixlt x o' hx
       ·refine hf.heap.keepBut hext hkeep (λn k hne=>⟨by simp; omega,by simp⟩) (λ_ =>?_)
        refine .inr ⟨b,hb,ho1,ho2,NR,T',setRow_heap w b cv NR T' (0,0) hh,?_,?_⟩
        ·simp; omega
        ·intro k c y hc hy
         rw[List.getElem?_take] at hy
         split at hy
         ·rename_i hk2
          rw[hNk k hk2] at hc
          exact(hcr k c y hc hy).keep hext hkeep (by simp)
         ·simp at hy
       ·simp only[List.length_set]; exact hf.hdom
      unfold Oper.wp
      rw[hrun]
      have hput:a.put o.dst (.tuple #[])=a:=by simp[hdst,Act.put]
      have hd:a3j vs o.dst = .n:=by simp[hdst,a3j]
      show next (a.put o.dst (.tuple #[])) _
      rw[hput]
      refine hk _ _ G ?_ hext rfl
      rw[hd]
      exact hf2
   ·simp at hs
  ·simp at hs
 ·simp at hs
end
end PI
set_option linter.unusedSimpArgs false
set_option linter.unusedVariables false
namespace PI
open Go Go.RowKit
theorem a1J:∀{ps:List PV},a0j ps=true→∀p∈ps,a0p p=true
 | [],_,p,hp=>by simp at hp
 | x :: xs, h, p, hp => by
   simp only[a0j,Bool.and_eq_true] at h
   rcases List.mem_cons.1 hp with rfl|hp
   ·exact h.1
   ·exact a1J h.2 p hp
theorem b3R {p:PV} (h:a0p p=true):∀x∈p.cells,a0p x=true:=by
 intro x hx
 cases p<;>simp only[PV.cells,List.mem_singleton] at hx<;>first|(subst hx; exact h)|(simp at hx; done)|skip
 exact a1J (by simpa[a0p] using h) x hx
theorem VR.free {N:Nm} {w:World} {fix:Nat→Nat→Prop} {hp hp':Nat→Option Nat} {v:Value} {p:PV} (h:VR N w fix hp v p) (hr:a0p p=true):VR N w fix hp' v p:=by
 induction h with
 | bool b=>exact .bool b
 | int k n=>exact .int k n
 | str s=>exact .str s
 | nils own=>exact .nils own
 | void own a cap=>exact .void own a cap
 | nils'=>exact .nils'
 | void' a cap=>exact .void' a cap
 | list own b off len cap sz es cv hlen hcap hsz hflat hcell _ ih =>
   refine .list own b off len cap sz es cv hlen hcap hsz hflat hcell (λi e he j x hx=>ih i e he j x hx ?_)
   have:=a1J (by simpa[a0p] using hr) e (List.mem_of_getElem? he)
   exact b3R this x (List.mem_of_getElem? hx)
 | agg cs ps hlen hflat hown _ ih=>exact .agg cs ps hlen hflat hown (λi c p hc hp=>ih i c p hc hp (a1J (by simpa[a0p] using hr) p (List.mem_of_getElem? hp)))
 | tuple cs ps hlen _ ih=>exact .tuple cs ps hlen (λi c p hc hp=>ih i c p hc hp (a1J (by simpa[a0p] using hr) p (List.mem_of_getElem? hp)))
 | nilptr=>exact .nilptr
 | cptr b off ps cv hflat hcell _ ih=>exact .cptr b off ps cv hflat hcell (λk x hx=>ih k x hx (a1J (by simpa[a0p] using hr) x (List.mem_of_getElem? hx)))
 | ptr n off b h=>simp[a0p] at hr
 | rowp n sz agg len b cap h hcap hsh=>simp[a0p] at hr
 | rows n sz agg off len b o cap m T h hcap ho hsh hm=>simp[a0p] at hr
 | mapn=>exact .mapn
 | map n b h=>simp[a0p] at hr
 | yield k n l y tmps caps h0 hl hr0 hlen _ _ _=>simp[a0p,a0j] at hr
 | func k fs cs pf pc h0 h1 h2 _ _ ihf ihc =>
   simp only[a0p,Bool.and_eq_true] at hr
   exact .func k fs cs pf pc h0 h1 h2 (λi c p hc hp=>ihf i c p hc hp (a1J hr.1 p (List.mem_of_getElem? hp))) (λi c p hc hp=>ihc i c p hc hp (a1J hr.2 p (List.mem_of_getElem? hp)))
 | nilfunc=>exact .nilfunc
 | iface t v p _ ih=>exact .iface t v p (ih (by simpa[a0p] using hr))
 | nilIface=>exact .nilIface
theorem VR.cp_dem {N:Nm} {w:World} {fix:Nat→Nat→Prop} {hp:Nat→Option Nat} {v:Value} {p:PV} (h:VR N w fix hp v p):cp (PI.dem p)=some (PI.dem p):=by
 cases h<;>rfl
structure HeapOnly (G:GS):Prop where
 ow:∀b k,G.ow b=some k→k.isH=true
 box:∀g,G.box g=none
structure Between (N:Nm) (w:World) (G:GS) (h:List PObj):Prop where
 only:HeapOnly G
 fixlt:∀b o,G.fix b o→b<w.heap.size
 owlt:∀b k,G.ow b=some k→b<w.heap.size
 heap:HR N w G h
 hdom:∀n b,G.heap n=some b→n<h.length
def b6y (w0:World) (G0:GS) (w:World) (G:GS) (v:Value) (es:List PV):Prop:=
 match v with
 | .slice (some a) len cap => cap = len ∨
   ((w0.heap.size ≤ a.block ∨ G0.ow a.block ≠ none) ∧ ∃ sz cs T, (∀ e ∈ es, e.cells.length = sz) ∧ Live w a.block cs T ∧ a.off + cap * sz ≤ cs.size ∧
     0<len∧∀o,a.off+len*sz≤o→¬G.fix a.block o)
 | _=>True
structure OwnIn (N:Nm) (w:World) (G:GS) (own:Option Nat) (args:List PV) (vals:Array Value):Prop where
 ow:∀b k,G.ow b=some k→∃i,own=some i∧k = .var i
 box:∀g,G.box g=none
 heap:∀n,G.heap n=none
 fixlt:∀b o,G.fix b o→b<w.heap.size
 owlt:∀b k,G.ow b=some k→b<w.heap.size
 tab:Tab N w G.fix
 size:vals.size=args.length
 vr:∀(i:Nat) (v:Value) (p:PV),vals[i]? = some v→args[i]? = some p→VR N w G.fix G.heap v p
 room:∀(i:Nat) (v:Value) (es:List PV),own=some i→vals[i]? = some v→args[i]? = some (.list true es)→Room w G (.var i) v es
def d1j (N:Nm) (P:Program) (cf:a0v):Prop:=
 ∀ (k : Nat) (own : Option Nat) (args : List PV) (r : PV) (h' : List PObj), cf k (a5f own args) [] = some (r, h') → N.yl k = none ∧ ∀ (w : World) (G : GS) (vals : Array Value), OwnIn N w G own args vals →
   Calls P (N.fn k) vals w λe w'=>∃v G',e = .returned v∧VR N w' G'.fix G'.heap v r∧Ext w G w' G'∧(∀b o,G'.fix b o→b<w'.heap.size)∧∀es,r = .list true es→b6y w G w' G' v es
def c4z (N:Nm) (P:Program) (cf:a0v):Prop:=
 ∀ (k : Nat) (args : List PV) (r : PV) (h h' : List PObj), cf k args h = some (r, h') → N.yl k = none ∧ ∀ (w : World) (G : GS) (vals : Array Value), Between N w G h → vals.size = args.length →
   (∀(i:Nat) (v:Value) (p:PV),vals[i]? = some v→args[i]? = some p→VR N w G.fix G.heap v p) →
   Calls P (N.fn k) vals w λe w'=>∃v G',e = .returned v∧VR N w' G'.fix G'.heap v r∧Ext w G w' G'∧Between N w' G' h'
structure CallOK (N:Nm) (P:Program) (cf:a0v):Prop where
 plain:c4z N P cf
 own:d1j N P cf
theorem Room.sub {w:World} {G G':GS} {key:Key} {v:Value} {es:List PV} (h:Room w G key v es) (hf:G'.fix=G.fix) (ho:∀b,G.ow b=some key→G'.ow b=some key):Room w G' key v es:=by
 unfold Room at *
 split at h
 ·rename_i a len cap
  rcases h with h|⟨h1,sz,cs,T,h2,h3,h4,h5,h6⟩
  ·exact .inl h
  ·exact .inr ⟨ho _ h1,sz,cs,T,h2,h3,h4,h5,by rw[hf]; exact h6⟩
 ·trivial
theorem HR.sub {N:Nm} {w:World} {G G':GS} {heap:List PObj} (h:HR N w G heap) (hf:G'.fix=G.fix) (hh:G'.heap=G.heap) (ho:∀b k,k.isH=true→G.ow b=some k→G'.ow b=some k):HR N w G' heap:=by
 refine⟨?_,by rw[hf]; exact h.2⟩
 intro n ob hob
 rcases h.1 n ob hob with rfl|⟨b,h1,h2,h3⟩
 ·exact .inl rfl
 refine .inr ⟨b,by rw[hh]; exact h1,ho _ _ rfl h2,?_⟩
 cases ob with
 | cells cs =>
   obtain⟨f,cv,T,a1,a2,a3⟩:=h3
   refine⟨by rw[hf]; exact f,cv,T,a1,a2,?_⟩
   intro k c x hc hx
   obtain⟨b1,b2,b3⟩:=a3 k c x hc hx
   refine⟨by rw[hf,hh]; exact b1,b2,?_⟩
   split at b3
   ·exact b3.sub hf (λb=>ho b _ rfl)
   ·trivial
 | map es =>
   obtain⟨mes,clock,a1,a2,a3,a4,a5⟩:=h3
   refine⟨mes,clock,a1,a2,a3,a4,?_⟩
   intro i e p hi hp
   obtain⟨b1,b2,b3⟩:=a5 i e p hi hp
   refine⟨by rw[hf,hh]; exact b1,by rw[hf,hh]; exact b2,?_⟩
   split at b3
   ·exact b3.sub hf (λb=>ho b _ rfl)
   ·trivial
 | bld bs =>
   obtain⟨f,p,v,a1,a2,a3⟩:=h3
   refine⟨by rw[hf]; exact f,p,v,a1,a2,?_⟩
   rcases a3 with a3|⟨g,cap,cur,b1,b2,b3,b4⟩
   ·exact .inl a3
   ·exact .inr ⟨g,cap,cur,b1,ho _ _ rfl b2,by rw[hf]; exact b3,b4⟩
 | siter s pos =>
   obtain⟨f,s',a1,a2⟩:=h3
   exact⟨by rw[hf]; exact f,s',a1,a2⟩
 | gone=>trivial
 | loop ready =>
   obtain⟨f,r,a1,a2⟩:=h3
   exact⟨by rw[hf]; exact f,r,a1,a2⟩
 | over id =>
   obtain⟨f,r,a1,a2⟩:=h3
   exact⟨by rw[hf]; exact f,r,a1,a2⟩
def a56 (ow:Nat→Option Key) (b:Nat):Option Key:=
 match ow b with
 | some k=>if k.isH then some k else none
 | none=>none
theorem a5e {ow:Nat→Option Key} {b:Nat} {k:Key} (h:a56 ow b=some k):ow b=some k∧k.isH=true:=by
 unfold a56 at h
 split at h
 ·split at h
  ·simp at h; subst h; exact⟨by assumption,by assumption⟩
  ·simp at h
 ·simp at h
theorem b3S {ow:Nat→Option Key} {b:Nat} {k:Key} (h:ow b=some k) (hk:k.isH=true):a56 ow b=some k:=by
 simp[a56,h,hk]
def a4X (N:Nm) (P:Program) (L:Nat→Option PFunc):Prop:=
 ∀k f,L k=some f→∃fn,P.funcs[N.fn k]? = some fn∧fn.name ≠ "runtime.NumGoroutine" ∧ fn.body.isNone=false
section
variable {E:Env} {N:Nm} {w:World} {G:GS} {st:St} {a:Act} {vs:List Tmp} {ops:List Oper} {P:Program}
variable {o:Oper} {j:Nat} {next:Act→World→Prop} {Q:Exit→Act→World→Prop} {u:PV} {st1:St}
theorem a15 {L:Nat→Option PFunc} (hF:a4X N P L) {k:Nat} {f:PFunc} (hL:L k=some f) (args:Array Value) (w:World):(callFunc (N.fn k) args).run P w = .ok (.enter (N.fn k) args) w:=by
 obtain⟨fn,h1,h2,h3⟩:=hF k f hL
 have h2':(fn.name == "runtime.NumGoroutine")=false:=by simpa using h2
 simp only[callFunc,Sem.run_bind,run_program,Result.andThen_ok,h1,h2',h3,Bool.false_eq_true,if_false,Sem.run_pure]
theorem b0x (nm:Names vs (a0t vs ops)) (ho:ops[j]? = some o) (hf:FI N w G st a vs (a0t vs ops)) {cf:a0v} (hcf:CallOK N P cf) {k:Nat} {args:List PV} {vals:Array Value} {r:PV} {h':List PObj}
  (hsz:vals.size=args.length) (hv:∀(i:Nat) (v:Value) (p:PV),vals[i]? = some v→args[i]? = some p→VR N w G.fix G.heap v p) (hfree:a0j args=true) (hc:cf k args []=some (r,h')) (hr:a0p r=true)
  (hrun:(execOp a.eval o).run P w = .ok (.enter (N.fn k) vals) w) (hk:a2Z N w G a st (dem r) vs ops j o next):o.wp P a w next Q:=by
 unfold Oper.wp
 rw[hrun]
 let Gc:GS:={ fix:=G.fix,heap:=λ_=>none,box:=λ_=>none,ow:=λ_=>none }
 have hbt:Between N w Gc []:=⟨⟨by intro b k h; simp[Gc] at h,λ_=>rfl⟩,hf.fixlt,by intro b k h; simp[Gc] at h,⟨by intro n ob h; simp at h,hf.heap.2⟩,by intro n b h; simp[Gc] at h⟩
 refine((hcf.plain k args r [] h' hc).2 w Gc vals hbt hsz (λi v p h1 h2=>(hv i v p h1 h2).free (a1J hfree p (List.mem_of_getElem? h2)))).mono ?_
 rintro e w' ⟨v,G2,rfl,hvr,he,hb2⟩
 let G':GS:={ G with fix:=G2.fix }
 have hblock:∀b,b<w.heap.size→w'.heap[b]? = w.heap[b]? := λb hb=>he.same b hb rfl
 have hnew:∀b o,G2.fix b o→G.fix b o∨w.heap.size≤b:=by
  intro b o h
  rcases he.newfix b o h with h|h|h
  ·exact .inl h
  ·exact .inr h
  ·exact absurd rfl h
 have hext:Ext w G w' G':=by
  refine⟨he.os,he.tape,he.output,he.size,λb hlt _=>hblock b hlt,λb o h=>he.fix b o h,?_,λ_ h => .inr h,λ_ _ h=>h,he.shape,rfl⟩
  intro b o h
  rcases hnew b o h with h|h
  ·exact .inl h
  ·exact .inr (.inl h)
 have hkeep:a6B (λ_=>False) w G w' G':=by
  refine⟨?_,λ_ _ h=>h⟩
  intro b key hb' _
  have hlt':=hf.owlt _ _ hb'
  refine⟨hb',hblock b hlt',?_⟩
  intro o h
  rcases hnew b o h with h|h
  ·exact h
  ·omega
 have hf1:=hf.ext (G':=G') hext hkeep hf.gen (λb key h=>Nat.lt_of_lt_of_le (hf.owlt b key h) he.size) hb2.fixlt
 have hvr':VR N w' G'.fix G'.heap v (dem r):=(hvr.free hr).dem
 exact hk _ _ G' (hf1.put nm (a17 ho) (SR.of_pure hvr' hvr.cp_dem)) hext (a1v _ _ _)
theorem b18 (nm:Names vs (a0t vs ops)) (ho:ops[j]? = some o) (hf:FI N w G st a vs (a0t vs ops)) {cf:a0v} (hcf:CallOK N P cf) {k:Nat} {args:List PV} {vals:Array Value} {r:PV} {h':List PObj}
  (hsz:vals.size=args.length) (hv:∀(i:Nat) (v:Value) (p:PV),vals[i]? = some v→args[i]? = some p→VR N w G.fix G.heap v p) (hc:cf k args st.heap=some (r,h'))
  (hrun:(execOp a.eval o).run P w = .ok (.enter (N.fn k) vals) w) (hk:a2Z N w G a { st with heap:=h' } (dem r) vs ops j o next):o.wp P a w next Q:=by
 unfold Oper.wp
 rw[hrun]
 let Gc:GS:={ fix:=G.fix,heap:=G.heap,box:=λ_=>none,ow:=a56 G.ow }
 have hbt:Between N w Gc st.heap:=⟨⟨λb k h=>(a5e h).2,λ_=>rfl⟩,hf.fixlt,λb k h=>hf.owlt b k (a5e h).1,hf.heap.sub rfl rfl (λb k hk h=>b3S h hk),hf.hdom⟩
 refine((hcf.plain k args r st.heap h' hc).2 w Gc vals hbt hsz hv).mono ?_
 rintro e w' ⟨v,G2,rfl,hvr,he,hb2⟩
 let G':GS:={ fix:=G2.fix,heap:=G2.heap,box:=G.box,ow:=λb=>match G.ow b with | some k=>if k.isH then G2.ow b else some k | none=>G2.ow b,df:=G.df }
 have hext:Ext w G w' G':=by
  refine⟨he.os,he.tape,he.output,he.size,λb hlt h=>he.same b hlt (by simp[Gc,a56,h]),λb o h=>he.fix b o h,?_,?_,he.heap,he.shape,rfl⟩
  ·intro b o h
   rcases he.newfix b o h with h|h|h
   ·exact .inl h
   ·exact .inr (.inl h)
   ·refine .inr (.inr ?_)
    intro e
    apply h
    simp[Gc,a56,e]
  ·intro b h
   cases hb:G.ow b with
   | some k=>exact .inr (by simp)
   | none =>
     simp only[G',hb] at h
     rcases he.own b h with h|h
     ·exact .inl h
     ·exact absurd (by simp[Gc,a56,hb]) h
 have hkeep:a6B (λk=>k.isH=true) w G w' G':=by
  refine⟨?_,λ_ _ h=>h⟩
  intro b key hb' hn
  have hlt':=hf.owlt _ _ hb'
  have hnone:Gc.ow b=none:=by simp[Gc,a56,hb',hn]
  refine⟨by simp[G',hb',hn],he.same b hlt' hnone,?_⟩
  intro o h
  rcases he.newfix b o h with h|h|h
  ·exact h
  ·omega
  ·exact absurd hnone h
 have hheap:HR N w' G' h':=by
  refine hb2.heap.sub rfl rfl ?_
  intro b k hkH h
  cases hb:G.ow b with
  | none=>simp only[G',hb]; exact h
  | some k0 =>
    by_cases hk0:k0.isH=true
    ·simp only[G',hb,hk0,if_true]; exact h
    ·have hnone:Gc.ow b=none:=by simp[Gc,a56,hb,hk0]
     have hlt:=hf.owlt _ _ hb
     rcases he.own b (by rw[h]; simp) with h2|h2
     ·omega
     ·exact absurd hnone h2
 have hf1:FI N w' G' { st with heap:=h' } a vs (a0t vs ops):=by
  refine⟨hf.len,λi t u h1 h2=>(hf.var i t u h1 h2).keep hext hkeep (by simp[Key.isH]) (by simp[Key.isH]),λj t u h1 h2=>(hf.loc j t u h1 h2).keep hext hkeep (by simp[Key.isH]) (by simp[Key.isH]),hf.tv,hf.tl,(hf.defers.trans hext.df.symm),hf.gen,?_,hb2.fixlt,hheap,hb2.hdom⟩
  intro b k h
  cases hb:G.ow b with
  | some k0=>exact Nat.lt_of_lt_of_le (hf.owlt _ _ hb) he.size
  | none =>
    simp only[G',hb] at h
    exact hb2.owlt _ _ h
 exact hk _ _ G' (hf1.put nm (a17 ho) (SR.of_pure hvr.dem hvr.cp_dem)) hext (a1v _ _ _)
theorem a7I {xs:Array Operand} {us:List PV} (h1:xs.toList.length=us.length) (h2:∀(i:Nat) (x:Operand) (u:PV),xs.toList[i]? = some x→us[i]? = some u→VR N w G.fix G.heap (a.eval x) u∧cp u=some u):
  (xs.map a.eval).size=us.length∧∀(i:Nat) (v:Value) (p:PV),(xs.map a.eval)[i]? = some v→us[i]? = some p→VR N w G.fix G.heap v p:=by
 refine⟨by simpa using h1,?_⟩
 intro i v p hv hp
 simp only[Array.getElem?_map,Option.map_eq_some_iff] at hv
 obtain⟨x,hx,rfl⟩:=hv
 exact(h2 i x p (by simpa using hx) hp).1
theorem b6z {L:Nat→Option PFunc} (hF:a4X N P L) (hE:EnvOk E N) (nm:Names vs (a0t vs ops)) (ho:ops[j]? = some o) (hf:FI N w G st a vs (a0t vs ops)) {cf:a0v} (hcf:CallOK N P cf) (hcL:∀k args h r,cf k args h=some r→∃f,L k=some f)
  {f:FuncId} {k:Nat} {xs:Array Operand} {ts:Array TypeId} {pxs:List PX} (hop:o.op = .call { callee := .value (.func f),args:=xs,argTypes:=ts }) (hk':E.inv f=some k) (hx:cxs E vs ops xs.toList=some pxs)
  (hs:opv cf (.pcall k pxs) st=some (u,st1)) (hk:a2Z N w G a st1 u vs ops j o next):o.wp P a w next Q:=by
 simp only[opv] at hs
 split at hs
 ·rename_i us hus
  split at hs
  ·rename_i hfree
   split at hs
   ·rename_i r h' hc
    split at hs
    ·rename_i hr
     simp only[Option.some.injEq,Prod.mk.injEq] at hs
     obtain⟨rfl,rfl⟩:=hs
     obtain⟨h1,h2⟩:=a1C hE hf hx hus
     obtain⟨g1,g2⟩:=a7I (w:=w) (G:=G) h1 h2
     obtain⟨pf,hL⟩:=hcL _ _ _ _ hc
     have hfn:=hE.fn _ _ hk'
     refine b0x nm ho hf hcf g1 g2 hfree hc hr ?_ hk
     have:=a15 hF hL (xs.map a.eval) w
     rw[hfn] at this
     rw[hfn]
     simp[execOp,hop,resolve,Act.eval,Deferred.ofValue,invoke]
     exact this
    ·simp at hs
   ·simp at hs
  ·simp at hs
 ·simp at hs
theorem VR.cp_or {N:Nm} {w:World} {fix:Nat→Nat→Prop} {hp:Nat→Option Nat} {v:Value} {p:PV} (h:VR N w fix hp v p):cp p=some p∨∃es,p = .list true es:=by
 cases h with
 | nils o=>cases o<;>simp[cp]
 | void o _ _=>cases o<;>simp[cp]
 | list o _ _ _ _ _ _ _ _ _ _ _ _ _=>cases o<;>simp[cp]
 | _=>exact .inl rfl
theorem b9V {E:Env} {vs:List Tmp} {ops:List Oper}:∀{xs:List Operand} {ps:List PX} {i:Nat} {p:PX},cxs E vs ops xs=some ps→ps[i]? = some p→∃x,xs[i]? = some x∧cx E vs ops x=some p
 | [],ps,i,p,h,hp=>by simp[cxs] at h; subst h; simp at hp
 | x :: xs, ps, i, p, h, hp => by
   simp only[cxs,Option.bind_eq_some_iff,Option.map_eq_some_iff] at h
   obtain⟨q,h1,qs,h2,rfl⟩:=h
   cases i with
   | zero=>simp at hp; subst hp; exact⟨x,rfl,h1⟩
   | succ i =>
     have:=b9V (i:=i) h2 (by simpa using hp)
     simpa using this
def b6A:Value→Option Nat
 | .slice (some a) _ _=>some a.block
 | _=>none
theorem a9l (nm:Names vs (a0t vs ops)) (ho:ops[j]? = some o) (hd:a3j vs o.dst≠.n) {G0:GS} (he0:Ext w G0 w G) (hf:FI N w G st a vs (a0t vs ops)) {cf:a0v} (hcf:CallOK N P cf) {k:Nat} {own:Option Nat} {args:List PV} {vals:Array Value} {r:PV} {h':List PObj}
  (hsz:vals.size=args.length) (hv:∀(i:Nat) (v:Value) (p:PV),vals[i]? = some v→args[i]? = some p→VR N w G.fix G.heap v p) (hfree:a0j args=true)
  (hroom:∀(i:Nat) (v:Value) (es:List PV),own=some i→vals[i]? = some v→args[i]? = some (.list true es)→Room w G (a9j (a3j vs o.dst) j) v es)
  (hc:cf k (a5f own args) []=some (r,h')) (hr:a0p r=true)
  (hrun:(execOp a.eval o).run P w = .ok (.enter (N.fn k) vals) w) (hk:a2Z N w G0 a st r vs ops j o next):o.wp P a w next Q:=by
 classical
 unfold Oper.wp
 rw[hrun]
 let key:=a9j (a3j vs o.dst) j
 let Gc:GS:={ fix:=G.fix,heap:=λ_=>none,box:=λ_=>none,ow:=λb=>own.bind λi=>if vals[i]?.bind b6A=some b∧G.ow b=some key then some (.var i) else none }
 have hGc:∀b k,Gc.ow b=some k→G.ow b=some key∧∃i,own=some i∧k = .var i:=by
  intro b k h
  simp only[Gc,Option.bind_eq_some_iff] at h
  obtain⟨i,hi,h⟩:=h
  split at h
  ·rename_i hb
   simp only[Option.some.injEq] at h
   exact⟨hb.2,i,hi,h.symm⟩
  ·simp at h
 have hin:OwnIn N w Gc own args vals:=by
  refine⟨λb k h=>(hGc b k h).2,λ_=>rfl,λ_=>rfl,hf.fixlt,λb k h=>hf.owlt _ _ (hGc b k h).1,hf.heap.2,hsz,λi v p h1 h2=>(hv i v p h1 h2).free (a1J hfree p (List.mem_of_getElem? h2)),?_⟩
  intro i v es hi hvi hes
  have h:=hroom i v es hi hvi hes
  unfold Room at *
  split at h
  ·rename_i a' len cap
   rcases h with h|⟨h1,h2⟩
   ·exact .inl h
   ·refine .inr ⟨?_,h2⟩
    simp only[Gc,hi,hvi,Option.bind_some,b6A,true_and]
    rw[if_pos (show G.ow a'.block=some key from h1)]
  ·trivial
 refine((hcf.own k own args r h' hc).2 w Gc vals hin).mono ?_
 rintro e w' ⟨v,G2,rfl,hvr,he,hfx,hsp⟩
 let G':GS:={ G with fix:=G2.fix,ow:=λb=>if (∃es,r = .list true es)∧b6A v=some b∧(w.heap.size≤b∨Gc.ow b≠none)∧b<w'.heap.size then some key else G.ow b }
 have hnone:∀b k,G.ow b=some k→k≠key→Gc.ow b=none:=by
  intro b k h hn
  cases hx:Gc.ow b with
  | none=>rfl
  | some k' =>
    have:=(hGc b k' hx).1
    rw[h] at this
    simp only[Option.some.injEq] at this
    exact absurd this hn
 have hnone':∀b,G.ow b=none→Gc.ow b=none:=by
  intro b h
  cases hx:Gc.ow b with
  | none=>rfl
  | some k'=>have:=(hGc b k' hx).1; rw[h] at this; simp at this
 have hext:Ext w G w' G':=by
  refine⟨he.os,he.tape,he.output,he.size,λb hlt h=>he.same b hlt (hnone' b h),λb o h=>he.fix b o h,?_,?_,λ_ _ h=>h,he.shape,rfl⟩
  ·intro b o h
   rcases he.newfix b o h with h|h|h
   ·exact .inl h
   ·exact .inr (.inl h)
   ·exact .inr (.inr λe=>h (hnone' b e))
  ·intro b h
   simp only[G'] at h
   split at h
   ·rename_i hb
    rcases hb.2.2.1 with h1|h1
    ·exact .inl h1
    ·exact .inr λe=>h1 (hnone' b e)
   ·exact .inr h
 have hkeep:a6B (λk=>k=key) w G w' G':=by
  refine⟨?_,λ_ _ h=>h⟩
  intro b k hb' hn
  have hlt':=hf.owlt _ _ hb'
  have h0:=hnone b k hb' hn
  refine⟨?_,he.same b hlt' h0,?_⟩
  ·simp only[G']
   rw[if_neg]
   ·exact hb'
   ·rintro⟨_,_,h1|h1,_⟩
    ·omega
    ·exact h1 h0
  ·intro o h
   rcases he.newfix b o h with h|h|h
   ·exact h
   ·omega
   ·exact absurd h0 h
 have how:∀b k,G'.ow b=some k→b<w'.heap.size:=by
  intro b k h
  simp only[G'] at h
  split at h
  ·rename_i hb; exact hb.2.2.2
  ·exact Nat.lt_of_lt_of_le (hf.owlt _ _ h) he.size
 have hvr':VR N w' G'.fix G'.heap v r:=hvr.free hr
 have hsr:SR N w' G' key v r:=by
  rcases hvr'.cp_or with h|⟨es,rfl⟩
  ·exact SR.of_pure hvr' h
  ·refine⟨hvr',?_⟩
   have h:=hsp es rfl
   unfold Room
   unfold b6y at h
   split at h
   ·rename_i a' len cap
    rcases h with h|⟨h1,sz,cs,T,h2,h3,h4⟩
    ·exact .inl h
    ·refine .inr ⟨?_,sz,cs,T,h2,h3,h4⟩
     simp only[G']
     rw[if_pos]
     exact⟨⟨es,rfl⟩,rfl,h1,let ⟨fz,h5,_⟩:=h3; (Array.getElem?_eq_some_iff.1 h5).1⟩
   ·rename_i hx
    split
    ·rename_i a' len cap; exact absurd rfl (hx _ _ _)
    ·trivial
 exact hk _ _ G' (hf.extDst nm (a17 ho) hd hext hkeep (λg b h=>hf.gen g b h) how hfx rfl hsr) (he0.trans hext) (a1v _ _ _)
theorem b5y {L:Nat→Option PFunc} (hF:a4X N P L) (hE:EnvOk E N) (nm:Names vs (a0t vs ops)) (ho:ops[j]? = some o) (hd:a3j vs o.dst≠.n) (hf:FI N w G st a vs (a0t vs ops)) {cf:a0v} (hcf:CallOK N P cf) (hcL:∀k args h r,cf k args h=some r→∃f,L k=some f)
  {f:FuncId} {k:Nat} {xs:Array Operand} {ts:Array TypeId} {pxs:List PX} {own:Option Nat} (hop:o.op = .call { callee := .value (.func f),args:=xs,argTypes:=ts }) (hk':E.inv f=some k) (hx:cxs E vs ops xs.toList=some pxs)
  (hs:opv cf (.pcallx k pxs own) st=some (u,st1)) (hk:a2Z N w G a st1 u vs ops j o next):o.wp P a w next Q:=by
 have hrun:∀{args:List PV} {h:List PObj} {r},cf k args h=some r→(execOp a.eval o).run P w = .ok (.enter (N.fn k) (xs.map a.eval)) w:=by
  intro args h r hc
  obtain⟨pf,hL⟩:=hcL _ _ _ _ hc
  have hfn:=hE.fn _ _ hk'
  have:=a15 hF hL (xs.map a.eval) w
  rw[hfn] at this
  rw[hfn]
  simp[execOp,hop,resolve,Act.eval,Deferred.ofValue,invoke]
  exact this
 simp only[opv] at hs
 split at hs
 ·split at hs
  ·rename_i us hus
   split at hs
   ·rename_i hfree
    split at hs
    ·rename_i r h' hc
     split at hs
     ·rename_i hr
      simp only[Option.some.injEq,Prod.mk.injEq] at hs
      obtain⟨rfl,rfl⟩:=hs
      obtain⟨h1,h2⟩:=a1C hE hf hx hus
      obtain⟨g1,g2⟩:=a7I (w:=w) (G:=G) h1 h2
      exact a9l nm ho hd (Ext.refl _ _) hf hcf g1 g2 hfree (by intro i v es h; simp at h) hc hr (hrun hc) hk
     ·simp at hs
    ·simp at hs
   ·simp at hs
  ·simp at hs
 ·rename_i i
  split at hs
  ·rename_i v0 st2 us ht hus
   split at hs
   ·rename_i hfree
    split at hs
    ·rename_i r h' hc
     split at hs
     ·rename_i hr
      simp only[Option.some.injEq,Prod.mk.injEq] at hs
      obtain⟨rfl,rfl⟩:=hs
      simp only[Option.bind_eq_some_iff] at ht
      obtain⟨px,hpx,ht⟩:=ht
      obtain⟨h1,h2⟩:=a1C hE hf hx hus
      obtain⟨g1,g2⟩:=a7I (w:=w) (G:=G) h1 h2
      obtain⟨x,hx1,hx2⟩:=b9V hx hpx
      obtain⟨G',k1,k2,k3,k4,k5,k6,k7,_⟩:=a7R hE hx2 hf ht (a9j (a3j vs o.dst) j)
      refine a9l nm ho hd k2 k1 hcf (by rw[List.length_set]; exact g1) ?_ hfree.1 ?_ hc hr (hrun hc) hk
      ·intro i' v p hv hp
       rw[k4,k5]
       rw[List.getElem?_set] at hp
       split at hp
       ·rename_i he
        subst he
        split at hp
        ·simp only[Option.some.injEq] at hp
         subst hp
         simp only[Array.getElem?_map,Option.map_eq_some_iff] at hv
         obtain⟨x',hx',rfl⟩:=hv
         have:x'=x:=by rw[← Array.getElem?_toList,hx1] at hx'; simpa using hx'.symm
         subst this
         exact k6
        ·simp at hp
       ·exact g2 i' v p hv hp
      ·intro i' v es hi hv hes
       simp only[Option.some.injEq] at hi
       subst hi
       rw[List.getElem?_set] at hes
       simp only[if_true,hfree.2,Option.some.injEq] at hes
       subst hes
       simp only[Array.getElem?_map,Option.map_eq_some_iff] at hv
       obtain⟨x',hx',rfl⟩:=hv
       have:x'=x:=by rw[← Array.getElem?_toList,hx1] at hx'; simpa using hx'.symm
       subst this
       exact k7
     ·simp at hs
    ·simp at hs
   ·simp at hs
  ·simp at hs
theorem b6B {L:Nat→Option PFunc} (hF:a4X N P L) (hE:EnvOk E N) (nm:Names vs (a0t vs ops)) (ho:ops[j]? = some o) (hf:FI N w G st a vs (a0t vs ops)) {cf:a0v} (hcf:CallOK N P cf) (hcL:∀k args h r,cf k args h=some r→∃f,L k=some f)
  {t:Tmp} {px:PX} {xs:Array Operand} {ts:Array TypeId} {pxs:List PX} (hop:o.op = .call { callee := .value (.tmp t),args:=xs,argTypes:=ts }) (hpx:cx E vs ops (.tmp t)=some px) (hx:cxs E vs ops xs.toList=some pxs)
  (hs:opv cf (.callv px pxs) st=some (u,st1)) (hk:a2Z N w G a st1 u vs ops j o next):o.wp P a w next Q:=by
 simp only[opv] at hs
 split at hs
 ·rename_i k first captured us hfv hus
  split at hs
  ·rename_i hfree
   split at hs
   ·rename_i r h' hc
    split at hs
    ·rename_i hr
     simp only[Option.some.injEq,Prod.mk.injEq] at hs
     obtain⟨rfl,rfl⟩:=hs
     obtain⟨h1,h2⟩:=a1C hE hf hx hus
     obtain⟨g1,g2⟩:=a7I (w:=w) (G:=G) h1 h2
     obtain⟨pf,hL⟩:=hcL _ _ _ _ hc
     have hfun:=(a0k hE hpx hf hfv).1
     generalize hv:a.eval (.tmp t)=v at hfun
     cases hfun with
     | yield _ _ _ _ _ _ hy=>rw[(hcf.plain _ _ _ _ _ hc).1] at hy; simp at hy
     | func _ fs cs _ _ _ e1 e2 hfs hcs =>
       refine b0x (vals:=fs++xs.map a.eval++cs) nm ho hf hcf (by simp[e1,e2]; simpa using h1) ?_ hfree hc hr ?_ hk
       ·intro i v p hv' hp
        by_cases hi:i<fs.size
        ·rw[Array.append_assoc,Array.getElem?_append_left hi] at hv'
         rw[List.append_assoc,List.getElem?_append_left (by omega)] at hp
         exact hfs i v p hv' hp
        ·rw[Array.append_assoc,Array.getElem?_append_right (by omega)] at hv'
         rw[List.append_assoc,List.getElem?_append_right (by omega),← e1] at hp
         by_cases hi2:i - fs.size<(xs.map a.eval).size
         ·rw[Array.getElem?_append_left hi2] at hv'
          rw[List.getElem?_append_left (by omega)] at hp
          exact g2 _ v p hv' hp
         ·rw[Array.getElem?_append_right (by omega)] at hv'
          rw[List.getElem?_append_right (by omega),← g1] at hp
          exact hcs _ v p hv' hp
       ·have:=a15 hF hL (fs++xs.map a.eval++cs) w
        simp only[execOp,hop,resolve,Sem.run_bind,hv,Deferred.ofValue,Sem.run_pure,Result.andThen_ok,invoke]
        exact this
    ·simp at hs
   ·simp at hs
  ·simp at hs
 ·simp at hs
theorem b19 {L:Nat→Option PFunc} (hF:a4X N P L) (hE:EnvOk E N) (nm:Names vs (a0t vs ops)) (ho:ops[j]? = some o) (hf:FI N w G st a vs (a0t vs ops)) {cf:a0v} (hcf:CallOK N P cf) (hcL:∀k args h r,cf k args h=some r→∃f,L k=some f)
  {f:FuncId} {k:Nat} {xs:Array Operand} {ts:Array TypeId} {pxs:List PX} (hop:o.op = .call { callee := .value (.func f),args:=xs,argTypes:=ts }) (hk':E.inv f=some k) (hx:cxs E vs ops xs.toList=some pxs)
  (hs:a0N cf (.call k pxs) st=some (u,st1)) (hk:a2Z N w G a st1 u vs ops j o next):o.wp P a w next Q:=by
 simp only[a0N,Option.bind_eq_some_iff,Option.map_eq_some_iff,Prod.mk.injEq] at hs
 obtain⟨us,hus,⟨r,h'⟩,hc,rfl,rfl⟩:=hs
 obtain⟨h1,h2⟩:=a1C hE hf hx hus
 obtain⟨g1,g2⟩:=a7I (w:=w) (G:=G) h1 h2
 obtain⟨pf,hL⟩:=hcL _ _ _ _ hc
 have hfn:=hE.fn _ _ hk'
 refine b18 nm ho hf hcf g1 g2 hc ?_ hk
 have:=a15 hF hL (xs.map a.eval) w
 rw[hfn] at this
 rw[hfn]
 simp[execOp,hop,resolve,Act.eval,Deferred.ofValue,invoke]
 exact this
theorem b5z {L:Nat→Option PFunc} (hF:a4X N P L) (hE:EnvOk E N) (nm:Names vs (a0t vs ops)) (ho:ops[j]? = some o) (hf:FI N w G st a vs (a0t vs ops)) {cf:a0v} (hcf:CallOK N P cf) (hcL:∀k args h r,cf k args h=some r→∃f,L k=some f)
  {t:Tmp} {px:PX} {xs:Array Operand} {ts:Array TypeId} {pxs:List PX} (hop:o.op = .call { callee := .value (.tmp t),args:=xs,argTypes:=ts }) (hpx:cx E vs ops (.tmp t)=some px) (hx:cxs E vs ops xs.toList=some pxs)
  (hs:a0N cf (.callv px pxs) st=some (u,st1)) (hk:a2Z N w G a st1 u vs ops j o next):o.wp P a w next Q:=by
 simp only[a0N] at hs
 split at hs
 ·rename_i k first captured us hfv hus
  simp only[Option.map_eq_some_iff,Prod.mk.injEq] at hs
  obtain⟨⟨r,h'⟩,hc,rfl,rfl⟩:=hs
  obtain⟨h1,h2⟩:=a1C hE hf hx hus
  obtain⟨g1,g2⟩:=a7I (w:=w) (G:=G) h1 h2
  obtain⟨pf,hL⟩:=hcL _ _ _ _ hc
  have hfun:=(a0k hE hpx hf hfv).1
  generalize hv:a.eval (.tmp t)=v at hfun
  cases hfun with
  | yield _ _ _ _ _ _ hy=>rw[(hcf.plain _ _ _ _ _ hc).1] at hy; simp at hy
  | func _ fs cs _ _ _ e1 e2 hfs hcs =>
    refine b18 (vals:=fs++xs.map a.eval++cs) nm ho hf hcf (by simp[e1,e2]; simpa using h1) ?_ hc ?_ hk
    ·intro i v p hv' hp
     by_cases hi:i<fs.size
     ·rw[Array.append_assoc,Array.getElem?_append_left hi] at hv'
      rw[List.append_assoc,List.getElem?_append_left (by omega)] at hp
      exact hfs i v p hv' hp
     ·rw[Array.append_assoc,Array.getElem?_append_right (by omega)] at hv'
      rw[List.append_assoc,List.getElem?_append_right (by omega),← e1] at hp
      by_cases hi2:i - fs.size<(xs.map a.eval).size
      ·rw[Array.getElem?_append_left hi2] at hv'
       rw[List.getElem?_append_left (by omega)] at hp
       exact g2 _ v p hv' hp
      ·rw[Array.getElem?_append_right (by omega)] at hv'
       rw[List.getElem?_append_right (by omega),← g1] at hp
       exact hcs _ v p hv' hp
    ·have:=a15 hF hL (fs++xs.map a.eval++cs) w
     simp only[execOp,hop,resolve,Sem.run_bind,hv,Deferred.ofValue,Sem.run_pure,Result.andThen_ok,invoke]
     exact this
 ·simp at hs
theorem b9W {L:Nat→Option PFunc} (hF:a4X N P L) (hE:EnvOk E N) (hP:E.P=P) (nm:Names vs (a0t vs ops)) (ho:ops[j]? = some o) (hf:FI N w G st a vs (a0t vs ops)) {cf:a0v} (hcf:CallOK N P cf)
  (hcL:∀k args h r,cf k args h=some r→∃f,L k=some f) {po:HOp} (hc:c2T E vs ops o=some po) (hs:a0N cf po st=some (u,st1)) (hk:a2Z N w G a st1 u vs ops j o next):o.wp P a w next Q:=by
 subst hP
 unfold c2T at hc
 split at hc
 ·rename_i t hop
  split at hc
  ·simp at hc
  ·split at hc
   ·rename_i hb
    simp only[Option.some.injEq] at hc
    subst hc
    exact b5H hE rfl nm ho hf hop hb hs hk
   ·simp only[Option.map_eq_some_iff] at hc
    obtain⟨z,hz,rfl⟩:=hc
    exact b5A nm ho hf hop hz hs hk
 ·rename_i t x hop
  split at hc
  ·simp at hc
  ·simp only[Option.bind_eq_some_iff,Option.map_eq_some_iff] at hc
   obtain⟨n,hn,p,hp,rfl⟩:=hc
   exact b5B hE nm ho hf hop hn hp hs hk
 ·rename_i t x hop
  split at hc
  ·simp only[Option.bind_eq_some_iff,Option.map_eq_some_iff] at hc
   obtain⟨n,hn,p,hp,rfl⟩:=hc
   exact b6E hE nm ho hf hop hn hp hs hk
  ·split at hc
   ·simp only[Option.bind_eq_some_iff,Option.map_eq_some_iff] at hc
    obtain⟨n,hn,p,hp,rfl⟩:=hc
    exact b6G hE nm ho hf hop hn hp hs hk
   ·simp at hc
 ·rename_i t x y hop
  split at hc
  ·rename_i hd
   simp only[Option.bind_eq_some_iff,Option.map_eq_some_iff] at hc
   obtain⟨n,hn,p,hp,q,hq,hc⟩:=hc
   split at hc
   ·subst hc
    exact b3U hE nm ho hf hop hd.1 hn hp hq hs hk
   ·subst hc
    exact b0A hE nm ho hf hop hd.1 hn hp hq hs hk
  ·simp at hc
 ·rename_i t x i hop
  split at hc
  ·rename_i len e hu
   split at hc
   ·simp only[Option.bind_eq_some_iff,Option.map_eq_some_iff] at hc
    obtain⟨n,hn,p,hp,q,hq,rfl⟩:=hc
    exact b5C hE nm ho hf hop hu hn hp hq hs hk
   ·simp at hc
  ·simp at hc
 ·rename_i t hop
  split at hc
  ·simp at hc
  ·simp only[Option.some.injEq] at hc
   subst hc
   exact b6D nm ho hf hop hs hk
 ·rename_i t m k ok hop
  split at hc
  ·rename_i kt e hu
   simp only[Option.bind_eq_some_iff,Option.map_eq_some_iff] at hc
   obtain⟨kk,hkk,z,hz,p,hp,q,hq,rfl⟩:=hc
   exact b5E hE nm ho hf hop hu hkk hz hp hq hs hk
  ·simp at hc
 ·rename_i t m k v hop
  split at hc
  ·rename_i kt e hu
   split at hc
   ·rename_i hd
    simp only[Option.bind_eq_some_iff,Option.map_eq_some_iff] at hc
    obtain⟨kk,hkk,p,hp,q,hq,r,hr,rfl⟩:=hc
    exact b3b hE nm ho hf (.inl hop) hd hu hkk hp hq hr hs hk
   ·simp at hc
  ·simp at hc
 ·rename_i t m k v hop
  split at hc
  ·rename_i kt e hu
   split at hc
   ·rename_i hd
    simp only[Option.bind_eq_some_iff,Option.map_eq_some_iff] at hc
    obtain⟨kk,hkk,p,hp,q,hq,r,hr,rfl⟩:=hc
    exact b3b hE nm ho hf (.inr hop) hd hu hkk hp hq hr hs hk
   ·simp at hc
  ·simp at hc
 ·rename_i op t x y t' hop
  split at hc
  ·rename_i hcond
   simp only[Option.bind_eq_some_iff,Option.map_eq_some_iff] at hc
   obtain⟨kd,hkd,p,hp,rfl⟩:=hc
   exact b6F hE nm ho hf hop hcond hkd hp hs hk
  ·simp at hc
 ·rename_i x hop
  simp only[Option.map_eq_some_iff] at hc
  obtain⟨p,hp,rfl⟩:=hc
  exact b5G hE nm ho hf hop hp hs hk
 ·rename_i t l c' hop
  split at hc
  ·rename_i e hu
   split at hc
   ·rename_i size z hn hz
    split at hc
    ·simp at hc
    ·rename_i hcond
     simp only[Bool.or_eq_true,not_or,Bool.not_eq_true,Bool.not_eq_false'] at hcond
     simp only[Option.map_eq_some_iff] at hc
     obtain⟨p,hp,rfl⟩:=hc
     exact b6H hE nm ho hf hop hu hn hz hcond.2 hp hs hk
   ·simp at hc
  ·simp at hc
 ·rename_i t x hop
  split at hc
  ·rename_i hu
   split at hc
   ·simp at hc
   ·simp only[Option.map_eq_some_iff] at hc
    obtain⟨p,hp,rfl⟩:=hc
    exact b6I hE nm ho hf hop hu hp hs hk
  ·simp at hc
 ·rename_i x hop
  split at hc
  ·simp at hc
  ·simp only[Option.map_eq_some_iff] at hc
   obtain⟨p,hp,rfl⟩:=hc
   exact b8p hE nm ho hf hop hp hs hk
 ·rename_i t parts hop
  split at hc
  ·rename_i n e hu
   split at hc
   ·rename_i size z hn hz
    simp only[Option.map_eq_some_iff] at hc
    obtain⟨ps,hps,rfl⟩:=hc
    exact b8m hE nm ho hf hop hu hn hz hps hs hk
   ·simp at hc
  ·simp at hc
 ·rename_i t x i hop
  split at hc
  ·rename_i len e hu
   simp only[Option.bind_eq_some_iff,Option.map_eq_some_iff] at hc
   obtain⟨n,hn,p,hp,q,hq,rfl⟩:=hc
   exact b8n hE nm ho hf hop hu hn hp hq hs hk
  ·simp at hc
 ·rename_i fn xs ys hop
  split at hc
  ·simp at hc
  ·simp only[Option.bind_eq_some_iff,Option.map_eq_some_iff] at hc
   obtain⟨f,hfn,k,hk',ps,hps,qs,hqs,rfl⟩:=hc
   have:fn = .func f:=by
    unfold d1n at hfn
    split at hfn
    ·simp at hfn; subst hfn; rfl
    ·simp at hfn
   subst this
   exact b5F hE nm ho hf hop hk' hps hqs hs hk
 ·rename_i args ts hop
  obtain⟨args⟩:=args
  obtain⟨ts⟩:=ts
  split at hc
  ·rename_i s x t1 t2 hargs hts
   simp only at hargs hts
   subst hargs hts
   split at hc
   ·split at hc
    ·rename_i e e' hu hu'
     split at hc
     ·rename_i size z hn hz
      simp only[Option.bind_eq_some_iff,Option.map_eq_some_iff] at hc
      obtain⟨p,hp,q,hq,rfl⟩:=hc
      exact b8q hE nm ho hf hop hu hu' hn hz hp hq hs hk
     ·simp at hc
    ·rename_i e k0 hu hu'
     split at hc
     ·rename_i size z hn hz
      simp only[Option.bind_eq_some_iff,Option.map_eq_some_iff] at hc
      obtain⟨p,hp,q,hq,rfl⟩:=hc
      exact b6J hE nm ho hf hop hu hu' hn hz hp hq hs hk
     ·simp at hc
    ·simp at hc
   ·simp at hc
  ·simp at hc
 ·rename_i args ts hop
  obtain⟨args⟩:=args
  obtain⟨ts⟩:=ts
  split at hc
  ·rename_i x t rest hargs hts
   simp only at hargs hts
   subst hargs hts
   split at hc
   ·rename_i e hu
    split at hc
    ·rename_i hn0
     simp only[Option.bind_eq_some_iff,Option.map_eq_some_iff] at hc
     obtain⟨size,hn,z,hz,p,hp,rfl⟩:=hc
     have hdst:o.dst=none:=by
      unfold isN a3j at hn0
      split at hn0
      ·rename_i hd
       split at hd
       ·assumption
       ·split at hd<;>simp at hd
      ·simp at hn0
     exact b6K hE nm ho hf hdst hop hu hn hz hp hs hk
    ·simp at hc
   ·simp at hc
  ·simp at hc
 ·rename_i args ts hop
  obtain⟨args⟩:=args
  obtain⟨ts⟩:=ts
  split at hc
  ·rename_i x t rest hargs hts
   simp only at hargs hts
   subst hargs hts
   split at hc
   ·rename_i kt e hu
    split at hc
    ·simp at hc
    ·simp only[Option.map_eq_some_iff] at hc
     obtain⟨p,hp,rfl⟩:=hc
     exact b8k hE nm ho hf hop rfl hu hp hs hk
   ·simp at hc
  ·simp at hc
 ·rename_i f args ts hop
  split at hc
  ·simp only[Option.bind_eq_some_iff,Option.map_eq_some_iff] at hc
   obtain⟨k,hk',ps,hps,rfl⟩:=hc
   split at hs
   ·refine b19 hF hE nm ho hf hcf hcL hop hk' hps ?_ hk
    simp only[a0N,Option.bind_eq_some_iff,same] at hs ⊢
    obtain⟨us,h1,r,h2,h3⟩:=hs
    split at h3
    ·rename_i he
     simp only[Option.some.injEq,Prod.mk.injEq] at h3
     obtain⟨rfl,rfl⟩:=h3
     exact⟨us,h1,by rw[h2,Option.map_some,he]⟩
    ·simp at h3
   ·exact b19 hF hE nm ho hf hcf hcL hop hk' hps hs hk
  ·simp at hc
 ·rename_i t args ts hop
  split at hc
  ·simp only[Option.bind_eq_some_iff,Option.map_eq_some_iff] at hc
   obtain⟨p,hp,ps,hps,rfl⟩:=hc
   exact b5z hF hE nm ho hf hcf hcL hop hp hps hs hk
  ·simp at hc
 ·simp at hc
theorem c1C {L:Nat→Option PFunc} (hF:a4X N P L) (hE:EnvOk E N) (hP:E.P=P) (nm:Names vs (a0t vs ops)) (ho:ops[j]? = some o) (hf:FI N w G st a vs (a0t vs ops)) {cf:a0v} (hcf:CallOK N P cf)
  (hcL:∀k args h r,cf k args h=some r→∃f,L k=some f) {po:POp} (hc:cOp E vs ops o=some po) (hs:opv cf po st=some (u,st1)) (hk:a2Z N w G a st1 u vs ops j o next):o.wp P a w next Q:=by
 unfold cOp at hc
 simp only at hc
 split at hc
 ·rename_i h hch
  simp only[Option.some.injEq] at hc
  subst hc
  exact b9W hF hE hP nm ho hf hcf hcL hch (by simpa[opv] using hs) hk
 rename_i hnone
 subst hP
 split at hc
 ·
  rename_i x hop
  simp only[Option.map_eq_some_iff] at hc
  obtain⟨p,hp,rfl⟩:=hc
  split at hs
  ·exact b25 hE nm ho hf (by simp[execOp,hop]) hp (by simpa[opv] using hs) hk
  ·exact b9Q hE nm ho hf (by simp[execOp,hop]) hp (by simpa[opv] using hs) hk
 ·rename_i x hop
  simp only[Option.map_eq_some_iff] at hc
  obtain⟨p,hp,rfl⟩:=hc
  exact b25 hE nm ho hf (by simp[execOp,hop]) hp (by simpa[opv] using hs) hk
 ·rename_i x y z hop
  simp only[Option.bind_eq_some_iff,Option.map_eq_some_iff] at hc
  obtain⟨px,hpx,pa,hpa,pb,hpb,rfl⟩:=hc
  exact b8c hE nm ho hf hop hpx hpa hpb hs hk
 ·rename_i t hop
  split at hc
  ·rename_i hv
   simp only[Option.map_eq_some_iff] at hc
   obtain⟨z,hz,rfl⟩:=hc
   exact b5s nm ho hf hop hz hv hs hk
  ·simp at hc
 ·rename_i t x hop
  split at hc
  ·rename_i hv
   simp only[Option.bind_eq_some_iff,Option.map_eq_some_iff] at hc
   obtain⟨n,hn,p,hp,rfl⟩:=hc
   exact b5t hE nm ho hf hop hn hp hv hs hk
  ·simp at hc
 ·rename_i t parts hop
  split at hc
  ·rename_i fs z hu hz
   split at hc
   ·rename_i places hpl
    simp only[Option.map_eq_some_iff] at hc
    obtain⟨ps,hps,rfl⟩:=hc
    exact b6v hE nm ho hf hop hu hz hpl hps hs hk
   ·simp at hc
  ·simp at hc
 ·rename_i t len parts hop
  split at hc
  ·rename_i e hu
   split at hc
   ·rename_i size z hn hz
    split at hc
    ·rename_i hlen
     simp only[Option.map_eq_some_iff] at hc
     obtain⟨ps,hps,rfl⟩:=hc
     exact b3O hE nm ho hf hop hu hn hz hlen hps hs hk
    ·simp at hc
   ·simp at hc
  ·simp at hc
 ·rename_i t x hop
  simp only[Option.bind_eq_some_iff,Option.map_eq_some_iff] at hc
  obtain⟨n,hn,p,hp,rfl⟩:=hc
  split at hs
  ·refine b27 (tk:=false) (cf:=cf) hE nm ho hf hop hn hp ?_ hk
   simp only[opv] at hs ⊢
   split at hs
   ·rename_i s' g off hadd
    split at hs
    ·rename_i g' cs hv
     split at hs
     ·rename_i hc
      obtain⟨rfl,rfl⟩:=hc
      simp only[hadd,hv,if_true,Bool.false_and]
      exact hs
     ·simp at hs
    ·simp at hs
   ·simp at hs
  ·exact b27 hE nm ho hf hop hn hp hs hk
 ·rename_i t x y hop
  split at hc
  ·rename_i hd
   simp only[Option.bind_eq_some_iff,Option.map_eq_some_iff] at hc
   obtain⟨n,hn,p,hp,q,hq,rfl⟩:=hc
   exact b6w hE nm ho hf hop hd hn hp hq hs hk
  ·simp at hc
 ·rename_i s x f hop
  split at hc
  ·rename_i fs hu
   split at hc
   ·rename_i fd hfd
    simp only[Option.bind_eq_some_iff,Option.map_eq_some_iff] at hc
    obtain⟨n,hn,p,hp,rfl⟩:=hc
    exact b6t hE nm ho hf hop hu hfd hn hp hs hk
   ·simp at hc
  ·simp at hc
 ·rename_i t x i hop
  split at hc
  ·rename_i e hu
   simp only[Option.bind_eq_some_iff,Option.map_eq_some_iff] at hc
   obtain⟨n,hn,p,hp,q,hq,rfl⟩:=hc
   exact b5i hE nm ho hf hop hu hn hp hq hs hk
  ·rename_i len e hu
   simp only[Option.bind_eq_some_iff,Option.map_eq_some_iff] at hc
   obtain⟨n,hn,p,hp,q,hq,rfl⟩:=hc
   exact b5j hE nm ho hf hop hu hn hp hq hs hk
  ·simp at hc
 ·rename_i t x f hop
  split at hc
  ·rename_i fs hu
   split at hc
   ·rename_i fd hfd
    simp only[Option.bind_eq_some_iff,Option.map_eq_some_iff] at hc
    obtain⟨n,hn,p,hp,rfl⟩:=hc
    exact b6u hE nm ho hf hop hu hfd hn hp hs hk
   ·simp at hc
  ·simp at hc
 ·rename_i t x i hop
  split at hc
  ·rename_i hu
   simp only[Option.bind_eq_some_iff,Option.map_eq_some_iff] at hc
   obtain⟨p,hp,q,hq,rfl⟩:=hc
   exact b2w hE nm ho hf hop hu hp hq hs hk
  ·simp at hc
 ·rename_i t x lo hi hop
  split at hc
  ·rename_i hu
   simp only[Option.bind_eq_some_iff,Option.map_eq_some_iff] at hc
   obtain⟨p,hp,pl,hl,ph,hh,rfl⟩:=hc
   exact b5p hE nm ho hf hop hu hp hl hh hs hk
  ·rename_i e hu
   simp only[Option.bind_eq_some_iff,Option.map_eq_some_iff] at hc
   obtain⟨n,hn,p,hp,pl,hl,ph,hh,rfl⟩:=hc
   exact b5q hE nm ho hf hop hu hn hp hl hh hs hk
  ·rename_i n e hu
   split at hc
   ·have hn:a05 E.P e=some 1:=by assumption
    simp only[Option.map_eq_some_iff] at hc
    obtain⟨p,hp,rfl⟩:=hc
    exact b2x hE nm ho hf hop hu hn hp hs hk
   ·simp at hc
  ·simp at hc
 ·rename_i op t x y t' hop
  split at hc
  ·rename_i hop2
   split at hc
   ·rename_i agg ks ht
    simp only[Option.bind_eq_some_iff,Option.map_eq_some_iff] at hc
    obtain⟨p,hp,q,hq,rfl⟩:=hc
    exact c1z hE rfl nm ho hf hop hop2 ht hp hq hs hk
   ·simp only[Option.bind_eq_some_iff,Option.map_eq_some_iff] at hc
    obtain⟨p,hp,q,hq,rfl⟩:=hc
    exact b5m hE nm ho hf hop hp hq hs hk
   ·simp at hc
  ·simp only[Option.bind_eq_some_iff,Option.map_eq_some_iff] at hc
   obtain⟨p,hp,q,hq,rfl⟩:=hc
   exact b5m hE nm ho hf hop hp hq hs hk
 ·rename_i op t x hop
  simp only[Option.map_eq_some_iff] at hc
  obtain⟨p,hp,rfl⟩:=hc
  exact c1A hE nm ho hf hop hp hs hk
 ·rename_i s t x hop
  split at hc
  ·rename_i k' k hu hu'
   simp only[Option.map_eq_some_iff] at hc
   obtain⟨p,hp,rfl⟩:=hc
   exact b3L hE nm ho hf hop hu hu' hp hs hk
  ·rename_i hu hu'
   simp only[Option.map_eq_some_iff] at hc
   obtain⟨p,hp,rfl⟩:=hc
   exact b8e hE nm ho hf hop hu hu' hp hs hk
  ·rename_i e hu hu'
   split at hc
   ·rename_i he
    split at hc
    ·simp at hc
    ·rename_i hnd
     have hnd':a3j vs o.dst≠.n:=by intro e; rw[e] at hnd; simp[isN] at hnd
     simp only[Option.map_eq_some_iff] at hc
     obtain⟨p,hp,rfl⟩:=hc
     exact b91 hE nm ho hf hop hnd' hu hu' he hp hs hk
   ·simp at hc
  ·rename_i e hu hu'
   split at hc
   ·rename_i he
    simp only[Option.map_eq_some_iff] at hc
    obtain⟨p,hp,rfl⟩:=hc
    exact b9U hE nm ho hf hop hu he hu' hp hs hk
   ·simp at hc
  ·simp at hc
 ·rename_i x i hop
  simp only[Option.map_eq_some_iff] at hc
  obtain⟨p,hp,rfl⟩:=hc
  exact b3M hE nm ho hf hop hp hs hk
 ·rename_i b args ts hop
  split at hc
  ·simp at hc
  ·rename_i hnd
   have hnd':a3j vs o.dst≠.n:=by intro e; rw[e] at hnd; simp[isN] at hnd
   obtain⟨args⟩:=args
   obtain⟨ts⟩:=ts
   unfold b6O at hc
   split at hc
   ·rename_i x t rest hb hargs hts
    simp only at hargs hts
    subst hargs hts
    split at hc
    ·rename_i hu
     simp only[Option.map_eq_some_iff] at hc
     obtain⟨p,hp,rfl⟩:=hc
     exact b5n hE nm ho hf hop rfl (str:=true) (by simpa using hu) hp hs hk
    ·rename_i e hu
     simp only[Option.map_eq_some_iff] at hc
     obtain⟨p,hp,rfl⟩:=hc
     exact b5n hE nm ho hf hop rfl (str:=false) (by simpa using⟨e,hu⟩) hp hs hk
    ·simp at hc
   ·simp only[Option.map_eq_some_iff] at hc
    obtain⟨p,hp,rfl⟩:=hc
    exact b7h (mx:=false) hE nm ho hf hop hp hs hk
   ·simp only[Option.map_eq_some_iff] at hc
    obtain⟨p,hp,rfl⟩:=hc
    exact b7h (mx:=true) hE nm ho hf hop hp hs hk
   ·rename_i x t rest hb hargs hts
    simp only at hargs hts
    subst hargs hts
    split at hc
    ·rename_i e hu
     simp only[Option.map_eq_some_iff] at hc
     obtain⟨p,hp,rfl⟩:=hc
     exact b9R hE nm ho hf hop rfl hu hp hs hk
    ·simp at hc
   ·rename_i s x t1 t2 hb hargs hts
    simp only at hargs hts
    subst hargs hts
    split at hc
    ·rename_i e e' hu hu'
     split at hc
     ·rename_i size z hn hz
      simp only[Option.bind_eq_some_iff,Option.map_eq_some_iff] at hc
      obtain⟨p,hp,q,hq,rfl⟩:=hc
      exact b5v hE nm ho hf hop hnd' hu hu' hn hz hp hq hs hk
     ·simp at hc
    ·rename_i e hu hu'
     split at hc
     ·rename_i z he hn hz hb1
      simp only[Option.bind_eq_some_iff,Option.map_eq_some_iff] at hc
      obtain⟨p,hp,q,hq,rfl⟩:=hc
      exact b5x hE nm ho hf hop hnd' hu hu' hn hz hb1 hp hq hs hk
     ·simp at hc
    ·simp at hc
   ·simp at hc
 ·rename_i f args ts hop
  simp only[Option.bind_eq_some_iff,Option.map_eq_some_iff] at hc
  obtain⟨k,hk',ps,hps,rfl⟩:=hc
  split at hs
  ·split at hs
   ·simp[a6y,opv,rd,raw,cp] at hs
   ·rename_i hnd
    exact b5y hF hE nm ho (by intro e; rw[e] at hnd; simp[isN] at hnd) hf hcf hcL hop hk' hps hs hk
  ·exact b6z hF hE nm ho hf hcf hcL hop hk' hps hs hk
 ·rename_i t args ts hop
  simp only[Option.bind_eq_some_iff,Option.map_eq_some_iff] at hc
  obtain⟨p,hp,ps,hps,rfl⟩:=hc
  exact b6B hF hE nm ho hf hcf hcL hop hp hps hs hk
 ·simp at hc
end
section
variable {E:Env} {N:Nm} {w:World} {G:GS} {st:St} {a:Act} {vs:List Tmp} {P:Program} {ops:Array Oper}
variable {o:Oper} {j:Nat} {Q:Exit→Act→World→Prop} {st1:St}
abbrev Next1 (N:Nm) (w:World) (G:GS) (a:Act) (st1:St) (vs:List Tmp) (ops:List Oper) (K:Act→World→Prop):Prop:=
 ∀a' w' G',FI N w' G' st1 a' vs (a0t vs ops)→Ext w G w' G'→a'.tmps.size=a.tmps.size→K a' w'
theorem a6P {L:Nat→Option PFunc} (hF:a4X N P L) (hE:EnvOk E N) (hP:E.P=P) (nm:Names vs (a0t vs ops.toList)) (ho:ops[j]? = some o) (hf:FI N w G st a vs (a0t vs ops.toList)) {cf:a0v} (hcf:CallOK N P cf)
  (hcL:∀k args h r,cf k args h=some r→∃f,L k=some f) {po:PO} (hc:b5S E vs ops.toList o=some po) (hs:a20 cf j po st=some st1) {K:Act→World→Prop} (hk:Next1 N w G a st1 vs ops.toList K):wpOp P ops Q j K a w:=by
 have ho':ops.toList[j]? = some o:=by simpa using ho
 simp only[b5S,Option.map_eq_some_iff] at hc
 obtain⟨g,hg,rfl⟩:=hc
 generalize hpd:(cOp E vs ops.toList o).getD a6y=p at hs
 unfold wpOp
 simp only[ho]
 have run:∀{st1},(opv cf p st).map (λr=>put r.2 j (a3j vs o.dst) r.1)=some st1→Next1 N w G a st1 vs ops.toList K→o.wp P a w K Q:=by
  intro st1 h hk
  simp only[Option.map_eq_some_iff] at h
  obtain⟨⟨u,st2⟩,h1,rfl⟩:=h
  cases hcp:cOp E vs ops.toList o with
  | none =>
    rw[hcp] at hpd
    simp only[Option.getD_none] at hpd
    subst hpd
    simp[a6y,opv,rd,raw,cp] at h1
  | some p' =>
    rw[hcp] at hpd
    simp only[Option.getD_some] at hpd
    subst hpd
    exact c1C hF hE hP nm ho' hf hcf hcL hcp h1 hk
 unfold c1P at hg
 split at hg
 ·rename_i hgn
  simp at hg; subst hg
  simp only[a20] at hs
  rw[if_pos (by simp[Region.wanted,hgn])]
  exact .inl (run hs hk)
 ·rename_i jj want hgs
  split at hg
  ·rename_i og hog
   split at hg
   ·rename_i t ht
    simp only[Option.map_eq_some_iff] at hg
    obtain⟨px,hpx,rfl⟩:=hg
    simp only[a20] at hs
    split at hs
    ·rename_i b hb
     have hev:=(a0k hE hpx hf hb).1
     have hev':a.eval (.tmp t) = .bool b:=by generalize a.eval (.tmp t)=z at hev; cases hev; rfl
     have hy:yielded ops a.tmps jj=some b:=by
      have h1:ops[jj]? = some og:=by simpa using hog
      have h2:a.tmps[t]? = some (.bool b):=by
       simp only[Act.eval,Array.getD_eq_getD_getElem?] at hev'
       cases h:a.tmps[t]? with
       | none=>rw[h] at hev'; simp[undef] at hev'
       | some z=>rw[h] at hev'; simpa using hev'
      simp[yielded,h1,ht,h2]
     have hw:Region.wanted o (yielded ops a.tmps)=(b==want):=by
      simp[Region.wanted,hgs,hy]
     rw[hw]
     split at hs
     ·rename_i hbw
      rw[if_pos (by simpa using hbw)]
      exact .inl (run hs hk)
     ·rename_i hbw
      rw[if_neg (by simpa using hbw)]
      simp at hs; subst hs
      exact hk _ _ G (hf.put nm (a17 ho') (.tuple #[] [] rfl (by intro i c p h _; simp at h))) (Ext.refl _ _) (a1v _ _ _)
    ·rename_i hb
     have hev:=(a0k hE hpx hf hb).1
     have hev':a.eval (.tmp t) = .tuple #[]:=by
      generalize a.eval (.tmp t)=z at hev
      cases hev with
      | tuple cs _ hlen _=>simp at hlen; rw[hlen]
     have hy:yielded ops a.tmps jj=none:=by
      have h1:ops[jj]? = some og:=by simpa using hog
      simp only[Act.eval,Array.getD_eq_getD_getElem?] at hev'
      cases h:a.tmps[t]? with
      | none=>simp[yielded,h1,ht,h]
      | some z=>rw[h] at hev'; simp at hev'; subst hev'; simp[yielded,h1,ht,h]
     have hw:Region.wanted o (yielded ops a.tmps)=false:=by
      simp[Region.wanted,hgs,hy]
     rw[hw]
     simp at hs; subst hs
     exact hk _ _ G (hf.put nm (a17 ho') (.tuple #[] [] rfl (by intro i c p h _; simp at h))) (Ext.refl _ _) (a1v _ _ _)
    ·simp at hs
   ·simp at hg
  ·simp at hg
theorem Next1.trans {w':World} {G':GS} {a':Act} {K:Act→World→Prop} {vs':List Tmp} {ops':List Oper} (h:Next1 N w G a st1 vs' ops' K) (e:Ext w G w' G') (hs:a'.tmps.size=a.tmps.size):Next1 N w' G' a' st1 vs' ops' K:=
 λa2 w2 G2 h1 h2 h3=>h a2 w2 G2 h1 (e.trans h2) (h3.trans hs)
theorem a3J:∀{os:List Oper} {pos:List PO} {ops:List Oper},a8J E vs ops os=some pos→os.length=pos.length∧∀(i:Nat) (o:Oper),os[i]? = some o→∃p,pos[i]? = some p∧b5S E vs ops o=some p
 | [],pos,ops,h=>by simp[a8J] at h; subst h; simp
 | o :: os, pos, ops, h => by
   simp only[a8J,Option.bind_eq_some_iff,Option.map_eq_some_iff] at h
   obtain⟨p,hp,ps,hps,rfl⟩:=h
   obtain⟨h1,h2⟩:=a3J hps
   refine⟨by simp[h1],?_⟩
   intro i o' ho'
   cases i with
   | zero=>simp at ho'; subst ho'; exact⟨p,rfl,hp⟩
   | succ i=>simpa using h2 i o' (by simpa using ho')
noncomputable def a4b (cf:a0v) (pos:List PO):List Nat→St→Option St
 | [],st=>some st
 | i :: l, st =>
   match pos[i]? with
   | some p=>(a20 cf i p st).bind (a4b cf pos l)
   | none=>none
theorem a7Q {cf:a0v} {all:List PO}:∀{pos:List PO} {j:Nat} {st:St},all.drop j=pos→a09 cf j pos st=a4b cf all (List.range' j pos.length) st
 | [],j,st,_=>by simp[a09,a4b]
 | p :: pos, j, st, h => by
   have h1:all[j]? = some p:=by
    have:=congrArg List.head? h; simpa[List.head?_drop] using this
   have h2:all.drop (j+1)=pos:=by have:=congrArg List.tail h; simpa[List.tail_drop] using this
   simp only[a09,List.length_cons,List.range'_succ,a4b,h1]
   congr 1
   funext st'
   exact a7Q h2
theorem a95 {L:Nat→Option PFunc} (hF:a4X N P L) (hE:EnvOk E N) (hP:E.P=P) (nm:Names vs (a0t vs ops.toList)) {cf:a0v} (hcf:CallOK N P cf)
  (hcL:∀k args h r,cf k args h=some r→∃f,L k=some f) {pos:List PO} (hc:a8J E vs ops.toList ops.toList=some pos):
  ∀{l:List Nat} {st st':St} {w:World} {G:GS} {a:Act},a4b cf pos l st=some st'→FI N w G st a vs (a0t vs ops.toList)→Next1 N w G a st' vs ops.toList (Q .normal)→wpOps P ops Q l a w
 | [], st, st', w, G, a, h, hf, hk => by
   simp[a4b] at h; subst h
   exact hk _ _ G hf (Ext.refl _ _) rfl
 | i :: l, st, st', w, G, a, h, hf, hk => by
   simp only[a4b] at h
   split at h
   ·rename_i p hp
    simp only[Option.bind_eq_some_iff] at h
    obtain⟨st1,h1,h2⟩:=h
    have hlt:i<ops.toList.length:=by rw[(a3J hc).1]; exact(List.getElem?_eq_some_iff.1 hp).1
    obtain⟨p',hp',hcp⟩:=(a3J hc).2 i ops.toList[i] (List.getElem?_eq_getElem hlt)
    have:p'=p:=by rw[hp] at hp'; simpa using hp'.symm
    subst this
    rw[wpOps_cons]
    refine a6P hF hE hP nm (o:=ops.toList[i]) (by simp) hf hcf hcL hcp h1 ?_
    intro a' w' G' hf' he hs
    exact a95 hF hE hP nm hcf hcL hc h2 hf' (hk.trans he hs)
   ·simp at h
end
theorem b3K {t:Tmp} {vs:List Tmp} {i:Nat} (h:vs[i]? = some t):∀n,(a3O t vs n).isSome=true:=by
 induction vs generalizing i with
 | nil=>simp at h
 | cons x xs ih =>
   intro n
   simp only[a3O]
   split
   ·rfl
   ·rename_i hne
    cases i with
    | zero=>simp at h; exact absurd h hne
    | succ i=>exact ih (by simpa using h) (n+1)
theorem b5h {vs:List Tmp}:∀{ops:List Oper},b0d vs ops=true→∀(j j':Nat) (o o':Oper) (t:Tmp),ops[j]? = some o→ops[j']? = some o'→o.dst=some t→o'.dst=some t→(a3O t vs 0).isSome=false→j=j'
 | [],_,j,_,_,_,_,h,_,_,_,_=>by simp at h
 | x :: xs, h, j, j', o, o', t, h1, h2, h3, h4, h5 => by
   simp only[b0d,Bool.and_eq_true] at h
   obtain⟨ha,hb⟩:=h
   have key:∀(m:Nat) (p:Oper),xs[m]? = some p→x.dst=some t→p.dst≠some t:=by
    intro m p hm hx
    rw[hx] at ha
    simp only[h5,Bool.false_or,List.all_eq_true,bne_iff_ne,ne_eq] at ha
    exact ha p (List.mem_of_getElem? hm)
   cases j with
   | zero =>
     simp at h1; subst h1
     cases j' with
     | zero=>rfl
     | succ m=>exact absurd h4 (key m o' (by simpa using h2) h3)
   | succ m =>
     cases j' with
     | zero=>simp at h2; subst h2; exact absurd h3 (key m o (by simpa using h1) h4)
     | succ m'=>rw[b5h hb m m' o o' t (by simpa using h1) (by simpa using h2) h3 h4 h5]
theorem b0Z {vs:List Tmp} {ops:List Oper} (hn:vs.Nodup) (ho:b0d vs ops=true):Names vs (a0t vs ops):=by
 have sp:∀j t,a0t vs ops j=some t→∃o,ops[j]? = some o∧o.dst=some t∧(a3O t vs 0).isSome=false:=by
  intro j t h
  unfold a0t at h
  split at h
  ·rename_i o ho
   split at h
   ·rename_i t' ht'
    split at h
    ·simp at h
    ·rename_i hi
     simp at h; subst h
     exact⟨o,ho,ht',by simpa using hi⟩
   ·simp at h
  ·simp at h
 refine⟨?_,?_,?_⟩
 ·intro i i' t h1 h2
  obtain⟨hi,e1⟩:=List.getElem?_eq_some_iff.1 h1
  obtain⟨hi',e2⟩:=List.getElem?_eq_some_iff.1 h2
  exact(List.getElem_inj hn).1 (e1.trans e2.symm)
 ·intro j t i h1 h2
  obtain⟨o,_,_,h3⟩:=sp j t h1
  have:=b3K h2 0
  rw[h3] at this; simp at this
 ·intro j j' t h1 h2
  obtain⟨o,a1,a2,a3⟩:=sp j t h1
  obtain⟨o',b1,b2,_⟩:=sp j' t h2
  exact b5h ho j j' o o' t a1 b1 a2 b2 a3
end PI
