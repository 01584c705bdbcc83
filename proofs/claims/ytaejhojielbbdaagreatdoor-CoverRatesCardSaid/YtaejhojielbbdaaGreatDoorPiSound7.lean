/-
  The pure interpreter is right, 7: boxes read and written, appends.
-/
import Derived.Test.YtaejhojielbbdaaGreatDoorPiSound6
set_option linter.unusedSimpArgs false
set_option linter.unusedVariables false
set_option linter.unusedSectionVars false
namespace PI
open Go
section
variable {E : Env} {N : Nm} {w : World} {G : GS} {st : St} {a : Act} {vs : List Tmp} {ops : List Oper} {P : Program}
variable {o : Oper} {j : Nat} {next : Act → World → Prop} {Q : Exit → Act → World → Prop} {u : PV} {st1 : St}
/-- A box, opened. -/
theorem box_open (hf : FI N w G st a vs (lmap vs ops)) {s g b : Nat} {cs : List PV} (hv : st.vars[s]? = some (.loc g cs)) (hb : G.box g = some b) :
  ∃ t, vs[s]? = some t ∧ a.eval (.tmp t) = .pointer (some ⟨b, 0, none⟩) ∧ G.ow b = some (.var s) ∧ (∀ o, ¬ G.fix b o) ∧
    ∃ cv T, w.heap[b]? = some (.cells cv T (0, 0)) ∧ cv.size = cs.length ∧ ∀ (k : Nat) (c : Value) (x : PV), cv[k]? = some c → cs[k]? = some x → CR N w G (.vcell s k) c x := by
 have hs : s < vs.length := by rw [← hf.len]; exact (List.getElem?_eq_some_iff.1 hv).1
 have h := hf.var s vs[s] _ (List.getElem?_eq_getElem hs) hv
 obtain ⟨b', i, hk, h1, h2, h3, h4, h5⟩ := h
 have hi : i = s := by simpa using hk.symm
 subst hi
 have : b' = b := by rw [hb] at h2; simpa using h2.symm
 subst this
 exact ⟨vs[i], List.getElem?_eq_getElem hs, h1, h3, h4, h5⟩
theorem cells_of_box {b : Nat} {cv : Array Value} {T : TypeId} {cs : List PV} {s : Nat} (hh : w.heap[b]? = some (.cells cv T (0, 0))) (hl : cv.size = cs.length)
  (hc : ∀ (k : Nat) (c : Value) (x : PV), cv[k]? = some c → cs[k]? = some x → CR N w G (.vcell s k) c x) :
  CellsR N w G.fix G.heap cv.toList cs ∧ ∀ (k : Nat) (v : Value), cv.toList[k]? = some v → w.cell? ⟨b, k, none⟩ = some v := by
 refine ⟨⟨by simpa using hl, ?_, fun i c x h1 h2 => (hc i c x (by simpa using h1) h2).1⟩, ?_⟩
 ·intro x hx
  obtain ⟨i, hi⟩ := List.mem_iff_getElem?.1 hx
  have hlt : i < cv.size := by have := (List.getElem?_eq_some_iff.1 hi).1; omega
  exact (hc i cv[i] x (by simp [hlt]) hi).2.1
 ·intro k v hv
  simp only [Array.getElem?_toList] at hv
  simp [World.cell?, hh, hv]
theorem load_lptr (hf : FI N w G st a vs (lmap vs ops)) {t : TypeId} {n s g off b : Nat} {cs : List PV} {v : Value} (hn : sizeT P t = some n) (hv : v = .pointer (some ⟨b, off, none⟩)) (hb : G.box g = some b)
  (hs : st.vars[s]? = some (.loc g cs)) (hl : loadFrom n (isAggT P t) cs off = some u) : ∃ r, (Instr.loadAt t v).run P w = .ok r w ∧ VR N w G.fix G.heap r u ∧ cp u = some u := by
 obtain ⟨_, _, _, _, _, cv, T, h1, h2, h3⟩ := box_open hf hs hb
 obtain ⟨hR, hcell⟩ := cells_of_box h1 h2 h3
 have hn0 : n ≠ 0 := by obtain ⟨_, _, _, _, h, _⟩ := info_underlying hn; exact h
 obtain ⟨k1, k2, k3⟩ := loadFrom_sound hR hl hn0 (sizeT_one hn)
 refine ⟨_, ?_, k2, k3⟩
 subst hv
 have := run_loadVarT (w := w) hn b off (cv.toList.drop off) (by simp at k1 ⊢; omega) (fun j v hv => by
  rw [List.getElem?_drop] at hv
  exact hcell _ _ hv)
 simpa [Instr.loadAt, Instr.sureAddr] using this
theorem load_sound (hE : EnvOk E N) (nm : Names vs (lmap vs ops)) (ho : ops[j]? = some o) (hf : FI N w G st a vs (lmap vs ops)) {t : TypeId} {n : Nat} {x : Operand} {px : PX} {tk : Bool} (hop : o.op = .load t x) (hn : sizeT P t = some n)
  (hx : cx E vs ops x = some px) {cf : CallF} (hs : opv cf (.load n (isAggT P t) px tk) st = some (u, st1)) (hk : Goes N w G a st1 u vs ops j o next) : o.wp P a w next Q := by
 have plain : ∀ r, (Instr.loadAt t (a.eval x)).run P w = .ok r w → (execOp a.eval o).run P w = .ok (.value r) w := by
  intro r hr
  simp [execOp, hop, hr]
 simp only [opv] at hs
 split at hs
 ·rename_i cs ha
  simp only [Option.map_eq_some_iff, Prod.mk.injEq] at hs
  obtain ⟨r, hr, rfl, rfl⟩ := hs
  rcases addr_sound hE hx hf ha with ⟨_, _, _, _, h, _⟩ | ⟨h, _⟩
  ·simp at h
  ·obtain ⟨r', h1, h2, h3⟩ := load_cptr (P := P) hn h hr
   exact wp_value nm ho hf (plain _ h1) (SR.of_pure h2 h3) hk
 ·rename_i s g off ha
  rcases addr_sound hE hx hf ha with ⟨_, _, _, b, h, hv, hb⟩ | ⟨_, h⟩
  ·simp only [PV.lptr.injEq] at h
   obtain ⟨rfl, rfl, rfl⟩ := h
   split at hs
   ·rename_i g' cs hsv
    split at hs
    ·rename_i hgg
     subst hgg
     split at hs
     ·rename_i es htk hcell
      simp only [Option.some.injEq, Prod.mk.injEq] at hs
      obtain ⟨rfl, rfl⟩ := hs
      simp only [Bool.and_eq_true, Bool.not_eq_true'] at htk
      obtain ⟨tt, ht1, ht2, ht3, ht4, cv, T, hh, hl, hc⟩ := box_open hf hsv hb
      have hlt : off < cv.size := by have := (List.getElem?_eq_some_iff.1 hcell).1; omega
      obtain ⟨hvr, _, hroom⟩ := hc off cv[off] _ (by simp [hlt]) hcell
      obtain ⟨G', hG, hroom'⟩ := Room.give (key' := keyD (cDst vs o.dst) j) hroom
      have hgg : G'.box = G.box ∧ G'.fix = G.fix ∧ G'.heap = G.heap := by
       rcases hG with rfl | ⟨b, _, rfl⟩ <;> exact ⟨rfl, rfl, rfl⟩
      have hext : Ext w G w G' := by
       rcases hG with rfl | ⟨b, hb, rfl⟩
       ·exact Ext.refl _ _
       ·exact give_ext b _ (fun _ => by simp [hb])
      have hkeep : Keep (fun k => k = .vcell s off) w G w G' := by
       rcases hG with rfl | ⟨b, hb, rfl⟩
       ·exact ⟨fun b k h _ => ⟨h, rfl, fun _ h => h⟩, fun _ _ h => h⟩
       ·exact give_keep b _ (fun k' hk' => by rw [hb] at hk'; simpa using hk'.symm)
      have hf1 : FI N w G' { st with vars := st.vars.set s (.loc g (cs.set off (.list false es))) } a vs (lmap vs ops) := by
       refine ⟨by simp [hf.len], ?_, fun i t' u' h1 h2 => (hf.loc i t' u' h1 h2).keep hext hkeep (by simp) (by simp), hf.tv, hf.tl, (hf.defers.trans hext.df.symm), by rw [hgg.1]; exact hf.gen, ?_, by rw [hgg.2.1]; exact hf.fixlt, hf.heap.keep hext hkeep (by rintro k hk rfl; simp [Key.isH] at hk), by rw [hgg.2.2]; exact hf.hdom⟩
       ·intro i t' u' h1 h2
        simp only [List.getElem?_set] at h2
        split at h2
        ·rename_i hi
         subst hi
         split at h2
         ·simp at h2; subst h2
          have : t' = tt := by rw [ht1] at h1; simpa using h1.symm
          subst this
          obtain ⟨ho1, _, _⟩ := hkeep.1 _ _ ht3 (by simp)
          refine ⟨b, s, rfl, ht2, by rw [hgg.1]; exact hb, ho1, by rw [hgg.2.1]; exact ht4, cv, T, hh, by simp [hl], ?_⟩
          intro k c y hc1 hy
          rw [List.getElem?_set] at hy
          split at hy
          ·rename_i hk2
           subst hk2
           split at hy
           ·simp at hy; subst hy
            have : c = cv[off] := by simp [hlt] at hc1; exact hc1.symm
            subst this
            refine ⟨(hvr.dem).ext hext, rfl, trivial⟩
           ·simp at hy
          ·rename_i hk2
           exact (hc k c y hc1 hy).keep hext hkeep (by simp; omega)
         ·simp at h2
        ·rename_i hi
         exact (hf.var i t' u' h1 h2).keep hext hkeep (by simp) (by simp; intro i' k hi' e; omega)
       ·intro b' k hb'
        rcases hG with rfl | ⟨b2, hb2, rfl⟩
        ·exact hf.owlt _ _ hb'
        ·simp only [GS.give] at hb'
         split at hb'
         ·subst_vars; exact hf.owlt _ _ hb2
         ·exact hf.owlt _ _ hb'
      unfold Oper.wp
      have hrun : (Instr.loadAt t (a.eval x)).run P w = .ok cv[off] w := by
       have hcl : w.cell? ⟨b, off, none⟩ = some cv[off] := by simp [World.cell?, hh, hlt]
       rw [hv]
       simp [Instr.loadAt, Instr.sureAddr, loadVar, run_isAggT hn, htk.2, hcl]
      rw [plain _ hrun]
      exact hk _ _ G' (hf1.put nm (cDst_ok ho) ⟨hvr.ext hext, hroom'⟩) hext (put_size _ _ _)
     ·simp only [Option.map_eq_some_iff, Prod.mk.injEq] at hs
      obtain ⟨r, hr, rfl, rfl⟩ := hs
      obtain ⟨r', h1, h2, h3⟩ := load_lptr (P := P) hf hn hv hb hsv hr
      exact wp_value nm ho hf (plain _ h1) (SR.of_pure h2 h3) hk
    ·simp at hs
   ·simp at hs
  ·simp [cp] at h
 ·simp at hs
/-- What a store leaves in a box. -/
theorem store_sound (hE : EnvOk E N) (nm : Names vs (lmap vs ops)) (ho : ops[j]? = some o) (hf : FI N w G st a vs (lmap vs ops)) {t : TypeId} {n : Nat} {x y : Operand} {px py : PX} (hop : o.op = .store t x y) (hdst : o.dst = none) (hn : sizeT P t = some n)
  (hx : cx E vs ops x = some px) (hy : cx E vs ops y = some py) {cf : CallF} (hs : opv cf (.store n (isAggT P t) px py) st = some (u, st1)) (hk : Goes N w G a st1 u vs ops j o next) : o.wp P a w next Q := by
 simp only [opv] at hs
 split at hs
 ·rename_i s g off v st' ha htk
  rcases addr_sound hE hx hf ha with ⟨_, _, _, b, h, hv, hb⟩ | ⟨_, h⟩
  ·simp only [PV.lptr.injEq] at h
   obtain ⟨rfl, rfl, rfl⟩ := h
   obtain ⟨G1, hf1, hext1, hbox1, hfix1, hheap1, hvr, htaken, _, _, _⟩ := tk_sound hE hy hf htk (.vcell s off)
   split at hs
   ·rename_i g' cs hsv
    split at hs
    ·rename_i hgg
     subst hgg
     simp only [Option.map_eq_some_iff, Prod.mk.injEq] at hs
     obtain ⟨cs', hst, rfl, rfl⟩ := hs
     obtain ⟨tt, ht1, ht2, ht3, ht4, cv, T, hh, hl, hc⟩ := box_open hf1 hsv (by rw [hbox1]; exact hb)
     have hn0 : n ≠ 0 := by obtain ⟨_, _, _, _, h, _⟩ := info_underlying hn; exact h
     have key : ∃ nc : List Value, (a.eval y).cells.toList = nc ∧ nc.length = n ∧ off + n ≤ cv.size ∧ (∀ c ∈ nc, c.oneCell' = true) ∧ cs'.length = cs.length ∧
       ∀ (k : Nat) (c : Value) (z : PV), (cv.toList.take off ++ nc ++ cv.toList.drop (off + n))[k]? = some c → cs'[k]? = some z →
         (cv[k]? = some c ∧ cs[k]? = some z) ∨ (VR N w G.fix G.heap c z ∧ z.flat = true ∧ ∀ es, z = .list true es → (k = off ∧ Room w G1 (.vcell s off) c es) ∨ c = .slice none 0 0) := by
      unfold storeInto at hst
      split at hst
      ·rename_i hagg
       split at hst
       ·rename_i ws
        split at hst
        ·rename_i hcond
         simp only [Option.some.injEq] at hst; subst hst
         obtain ⟨ca, hca, hR⟩ := CellsR.of_agg hvr
         have hO : OwnNil ca.toList ws := OwnNil.of_agg (hca ▸ hvr)
         have hcl : (a.eval y).cells.toList = ca.toList := by rw [hca]; rfl
         have hlen : ca.toList.length = n := by have := hR.1; omega
         refine ⟨ca.toList, hcl, hlen, by omega, ?_, by simp; omega, ?_⟩
         ·intro c hcm
          obtain ⟨i, hi⟩ := List.mem_iff_getElem?.1 hcm
          have hlt : i < ws.length := by have := (List.getElem?_eq_some_iff.1 hi).1; have := hR.1; omega
          have h1 := hR.2.2 i c ws[i] hi (List.getElem?_eq_getElem hlt)
          have h2 := h1.oneCell (hR.2.1 _ (List.getElem_mem hlt))
          cases c <;> first | rfl | simp [oneCell] at h2
         ·intro k c z hc1 hz
          rw [List.append_assoc] at hc1
          have hoff : (cv.toList.take off).length = off := by simp; omega
          have hoff' : (cs.take off).length = off := by simp; omega
          by_cases h1 : k < off
          ·rw [List.getElem?_append_left (by omega), List.getElem?_take, if_pos h1] at hc1
           rw [List.getElem?_append_left (by omega), List.getElem?_take, if_pos h1] at hz
           exact .inl ⟨by simpa using hc1, hz⟩
          ·rw [List.getElem?_append_right (by omega), hoff] at hc1
           rw [List.getElem?_append_right (by omega), hoff'] at hz
           by_cases h2 : k < off + n
           ·rw [List.getElem?_append_left (by omega)] at hc1
            rw [List.getElem?_append_left (by omega)] at hz
            refine .inr ⟨hR.2.2 _ c z hc1 hz, hR.2.1 z (List.mem_of_getElem? hz), ?_⟩
            rintro es rfl
            exact .inr (hO _ c es hc1 hz)
           ·rw [List.getElem?_append_right (by omega), List.getElem?_drop, hlen] at hc1
            rw [List.getElem?_append_right (by omega), List.getElem?_drop, hcond.1] at hz
            rw [show off + n + (k - off - n) = k by omega] at hc1 hz
            exact .inl ⟨by simpa using hc1, hz⟩
        ·simp at hst
       ·simp at hst
      ·rename_i hagg
       have hn1 := sizeT_one hn (by simpa using hagg)
       subst hn1
       split at hst
       ·rename_i hcond
        simp only [Option.some.injEq] at hst; subst hst
        have h1 := hvr.oneCell hcond.2
        have hcl : (a.eval y).cells.toList = [a.eval y] := by
         generalize a.eval y = q at h1
         cases q <;> first | rfl | simp [oneCell] at h1
        refine ⟨[a.eval y], hcl, rfl, by omega, ?_, by simp, ?_⟩
        ·intro c hcm
         simp at hcm; subst hcm
         generalize a.eval y = q at h1
         cases q <;> first | rfl | simp [oneCell] at h1
        ·intro k c z hc1 hz
         rw [List.append_assoc] at hc1
         have hoff : (cv.toList.take off).length = off := by simp; omega
         rw [List.getElem?_set] at hz
         split at hz
         ·rename_i hko
          subst hko
          split at hz
          ·simp at hz; subst hz
           rw [List.getElem?_append_right (by omega), hoff] at hc1
           simp at hc1; subst hc1
           refine .inr ⟨hvr, hcond.2, ?_⟩
           rintro es rfl
           exact .inl ⟨rfl, htaken⟩
          ·simp at hz
         ·rename_i hko
          refine .inl ⟨?_, hz⟩
          by_cases h1 : k < off
          ·rw [List.getElem?_append_left (by omega), List.getElem?_take, if_pos h1] at hc1
           simpa using hc1
          ·rw [List.getElem?_append_right (by omega), hoff, List.getElem?_append_right (by simp; omega), List.getElem?_drop] at hc1
           simp only [List.length_singleton] at hc1
           rw [show off + 1 + (k - off - 1) = k by omega] at hc1
           simpa using hc1
       ·simp at hst
     obtain ⟨nc, hnc, hlen, hfit, hone, hlcs, hcells⟩ := key
     have hrun : (execOp a.eval o).run P w = .ok .skip (w.setRow b (cv.toList.take off ++ nc ++ cv.toList.drop (off + n)).toArray) := by
      have hst := run_storeCells_at P b off T nc 0 cv w hh (by simp; omega) hone
      simp only [Nat.add_zero, hlen] at hst
      have hsz : (a.eval y).cells.size = n := by rw [← hlen, ← hnc]; simp
      simp [execOp, hop, Instr.storeAt, hv, Instr.sureAddr, storeVar, run_sizeT hn, hsz, hnc, hst]
     unfold Oper.wp
     rw [hrun]
     have hblt : b < w.heap.size := hf1.owlt _ _ ht3
     have hother : ∀ x, x ≠ b → (w.setRow b (cv.toList.take off ++ nc ++ cv.toList.drop (off + n)).toArray).heap[x]? = w.heap[x]? := fun x hx => setRow_other w b x _ hx
     have hext2 : Ext w G1 (w.setRow b (cv.toList.take off ++ nc ++ cv.toList.drop (off + n)).toArray) G1 := by
      refine ⟨rfl, rfl, rfl, by simp [World.setRow], ?_, ?_, fun _ _ h => .inl h, fun _ h => .inr h, fun _ _ h => h, shape_setRow hh _ ?_, rfl⟩
      rotate_left 2
      ·simp; omega
      ·intro x _ hxo
       exact hother x (by rintro rfl; rw [ht3] at hxo; simp at hxo)
      ·intro x o' hfx
       refine ⟨hfx, ?_⟩
       have hxb : x ≠ b := by rintro rfl; exact ht4 _ hfx
       simp only [World.cell?, hother x hxb]
     have hkeep2 : Keep (fun k => k = .var s) w G1 (w.setRow b (cv.toList.take off ++ nc ++ cv.toList.drop (off + n)).toArray) G1 := by
      refine ⟨?_, fun _ _ h => h⟩
      intro x k hxk hnk
      refine ⟨hxk, hother x ?_, fun _ h => h⟩
      rintro rfl
      rw [ht3] at hxk
      simp at hxk
      exact hnk hxk.symm
     have hf2 : FI N (w.setRow b (cv.toList.take off ++ nc ++ cv.toList.drop (off + n)).toArray) G1 { st' with vars := st'.vars.set s (.loc g cs') } a vs (lmap vs ops) := by
      refine ⟨by simp [hf1.len], ?_, fun i t' u' h1 h2 => (hf1.loc i t' u' h1 h2).keep hext2 hkeep2 (by simp) (by simp), hf1.tv, hf1.tl, hf1.defers, hf1.gen, ?_, ?_, hf1.heap.keep hext2 hkeep2 (by rintro k hk rfl; simp [Key.isH] at hk), hf1.hdom⟩
      ·intro i t' u' h1 h2
       simp only [List.getElem?_set] at h2
       split at h2
       ·rename_i hi
        subst hi
        split at h2
        ·simp at h2; subst h2
         have : t' = tt := by rw [ht1] at h1; simpa using h1.symm
         subst this
         refine ⟨b, s, rfl, ht2, by rw [hbox1]; exact hb, ht3, ht4, _, T, setRow_heap w b cv _ T (0, 0) hh, ?_, ?_⟩
         ·simp; omega
         ·intro k c z hc1 hz
          rcases hcells k c z (by simpa using hc1) hz with ⟨k1, k2⟩ | ⟨k1, k2, k3⟩
          ·exact (hc k c z k1 k2).keep hext2 hkeep2 (by simp)
          ·refine ⟨(hfix1 ▸ hheap1 ▸ k1 : VR N w G1.fix G1.heap c z).ext hext2, k2, ?_⟩
           split
           ·rename_i es
            rcases k3 es rfl with ⟨e1, e2⟩ | e
            ·subst e1
             exact e2.keep hkeep2 (by simp)
            ·subst e; trivial
           ·trivial
        ·simp at h2
       ·rename_i hi
        exact (hf1.var i t' u' h1 h2).keep hext2 hkeep2 (by simp; omega) (by simp)
      ·intro x k hx; simpa [World.setRow] using hf1.owlt x k hx
      ·intro x o' hx; simpa [World.setRow] using hf1.fixlt x o' hx
     have hput : a.put o.dst undef = a := by simp [hdst, Act.put]
     have hd : cDst vs o.dst = .n := by simp [hdst, cDst]
     show next (a.put o.dst undef) _
     rw [hput]
     refine hk _ _ G1 ?_ (hext1.trans hext2) rfl
     rw [hd]
     exact hf2
    ·simp at hs
   ·simp at hs
  ·simp [cp] at h
 ·simp at hs
end
end PI
