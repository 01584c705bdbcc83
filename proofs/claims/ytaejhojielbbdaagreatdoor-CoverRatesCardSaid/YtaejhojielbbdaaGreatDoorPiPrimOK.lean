/-
  Functions of the library that are taken by their contracts: that they are so.
-/
import Derived.Test.YtaejhojielbbdaaGreatDoorPiFunc
import Derived.Test.YtaejhojielbbdaaGreatDoorPiPrim
import Derived.Shelf.Strings.OnBuilder
import Derived.Shelf.Strings.BuilderK
import Derived.Shelf.Strings.Search1
import Derived.Shelf.Strconv.Itoa3
import Derived.Shelf.Strconv.ErrVarAll
set_option linter.unusedSimpArgs false
set_option linter.unusedVariables false
set_option linter.unusedSectionVars false
namespace PI
open Go Go.RowKit Go.Shelf Go.Proofs
section
variable {N : Nm} {P : Program} {ρ : Ren}
/-- Nothing that was there has turned. -/
theorem below_ext {w w' : World} {G : GS} (h : Below w.heap.size w w') (hfl : ∀ b o, G.fix b o → b < w.heap.size) : Ext w G w' G :=
 ⟨h.os, h.tape, h.output, h.size, fun b hb _ => h.block b hb, fun b o hf => ⟨hf, by simp only [World.cell?, h.block b (hfl b o hf)]⟩, fun _ _ h => .inl h, fun _ h => .inr h, fun _ _ h => h, .same fun k hk => h.block k hk, rfl⟩
theorem below_between {w w' : World} {G : GS} {hp : List PObj} (h : Below w.heap.size w w') (hb : Between N w G hp) : Between N w' G hp := by
 refine ⟨hb.only, fun b o hf => Nat.lt_of_lt_of_le (hb.fixlt b o hf) h.size, fun b k ho => Nat.lt_of_lt_of_le (hb.owlt b k ho) h.size, ?_, hb.hdom⟩
 exact hb.heap.keep (K := fun _ => False) (below_ext h hb.fixlt) ⟨fun b k ho _ => ⟨ho, h.block b (hb.owlt b k ho), fun _ h => h⟩, fun _ _ h => h⟩ (fun _ _ h => h)
theorem prim_pure {k : Nat} {vals : Array Value} {w : World} {G : GS} {hp : List PObj} {r : PV} (hb : Between N w G hp) {R : Ending → World → Prop} (hc : Calls P (N.fn k) vals w R)
  (hR : ∀ e w', R e w' → ∃ v, e = .returned v ∧ VR N w' G.fix G.heap v r ∧ Below w.heap.size w w') :
  Calls P (N.fn k) vals w fun e w' => ∃ v G', e = .returned v ∧ VR N w' G'.fix G'.heap v r ∧ Ext w G w' G' ∧ Between N w' G' hp := by
 refine hc.mono ?_
 intro e w' h
 obtain ⟨v, rfl, h1, h2⟩ := hR e w' h
 exact ⟨v, G, rfl, h1, below_ext h2 hb.fixlt, below_between h2 hb⟩
theorem two {vals : Array Value} {p q : PV} {w : World} {G : GS} (hsz : vals.size = [p, q].length) (hvr : ∀ (i : Nat) (v : Value) (x : PV), vals[i]? = some v → [p, q][i]? = some x → VR N w G.fix G.heap v x) :
  ∃ v u, vals = #[v, u] ∧ VR N w G.fix G.heap v p ∧ VR N w G.fix G.heap u q := by
 obtain ⟨l⟩ := vals
 match l, hsz with
 | [v, u], _ => exact ⟨v, u, rfl, hvr 0 v p rfl rfl, hvr 1 u q rfl rfl⟩
theorem one1 {vals : Array Value} {p : PV} {w : World} {G : GS} (hsz : vals.size = [p].length) (hvr : ∀ (i : Nat) (v : Value) (x : PV), vals[i]? = some v → [p][i]? = some x → VR N w G.fix G.heap v x) :
  ∃ v, vals = #[v] ∧ VR N w G.fix G.heap v p := by
 obtain ⟨l⟩ := vals
 match l, hsz with
 | [v], _ => exact ⟨v, rfl, hvr 0 v p rfl rfl⟩
theorem strsOf_get : ∀ {es : List PV} {xs : List (List UInt8)}, strsOf es = some xs → es = xs.map PV.str
 | [], xs, h => by simp [strsOf] at h; subst h; rfl
 | e :: es, xs, h => by
   unfold strsOf at h
   split at h
   ·rename_i h0; simp at h0
   ·rename_i s r h0
    simp only [List.cons.injEq] at h0
    obtain ⟨rfl, rfl⟩ := h0
    simp only [Option.map_eq_some_iff] at h
    obtain ⟨ys, h1, rfl⟩ := h
    rw [strsOf_get h1]; rfl
   ·simp at h
theorem vr_str {w : World} {fix : Nat → Nat → Prop} {hp : Nat → Option Nat} (s : List UInt8) : VR N w fix hp (.string ⟨s.toArray⟩) (.str s) := by
 have := VR.str (N := N) (w := w) (fix := fix) (hp := hp) ⟨s.toArray⟩
 simpa using this
theorem vr_str_inv {w : World} {fix : Nat → Nat → Prop} {hp : Nat → Option Nat} {v : Value} {s : List UInt8} (h : VR N w fix hp v (.str s)) : v = .string ⟨s.toArray⟩ := by
 cases h with
 | str s => cases s; simp
theorem join_ok {k : Nat} (hk : N.fn k = ρ.f 156) (L : Lays.n156 P ρ) (X : Builder.Extra P ρ) : PrimOK N P k pJoin := by
 intro args r h h' hg w G vals hbt hsz hvr
 unfold pJoin at hg
 split at hg
 ·rename_i o es sep
  simp only [Option.bind_eq_some_iff] at hg
  obtain ⟨xs, hxs, hg⟩ := hg
  split at hg
  ·rename_i hlen
   simp only [Option.some.injEq, Prod.mk.injEq] at hg
   obtain ⟨rfl, rfl⟩ := hg
   have hes := strsOf_get hxs
   subst hes
   obtain ⟨v, u, rfl, hv, hu⟩ := two hsz hvr
   have := vr_str_inv hu; subst this
   generalize hes : xs.map PV.str = es at hv
   cases hv with
   | nils =>
     have : xs = [] := by simpa using hes
     subst this
     refine prim_pure hbt (hk ▸ Any.strings_Join_none L X none 0 _ w) ?_
     rintro e w' ⟨rfl, rfl⟩
     exact ⟨_, rfl, vr_str [], Below.refl _ _⟩
   | void _ a cap =>
     have : xs = [] := by simpa using hes
     subst this
     refine prim_pure hbt (hk ▸ Any.strings_Join_none L X (some a) cap _ w) ?_
     rintro e w' ⟨rfl, rfl⟩
     exact ⟨_, rfl, vr_str [], Below.refl _ _⟩
   | list _ b off len cap sz _ cv hlen' hcap hsz' hflat hcell hvr' =>
     subst hes
     have hl : len = xs.length := by rw [← hlen']; simp
     subst hl
     let bs : List ByteArray := xs.map fun s => ⟨s.toArray⟩
     have hbs : bs.map (·.data.toList) = xs := by simp [bs, List.map_map, Function.comp_def]
     have hbl : bs.length = xs.length := by simp [bs]
     by_cases h0 : xs = []
     ·subst h0
      refine prim_pure hbt (hk ▸ Any.strings_Join_none L X (some ⟨b, off, none⟩) cap _ w) ?_
      rintro e w' ⟨rfl, rfl⟩
      exact ⟨_, rfl, vr_str [], Below.refl _ _⟩
     ·have hpos : 0 < xs.length := List.length_pos_iff.2 h0
      have hs1 : sz = 1 := by
       have := hsz' (PV.str xs[0]) (by simp)
       simpa [PV.cells] using this.symm
      subst hs1
      have hbk : b < w.heap.size := hbt.fixlt _ _ (hcell 0 (by omega)).2
      have hcells : ∀ (j : Nat) x, bs[j]? = some x → w.cell? ⟨b, off + j, none⟩ = some (.string x) := by
       intro j x hx
       simp only [bs, List.getElem?_map, Option.map_eq_some_iff] at hx
       obtain ⟨s, hs, rfl⟩ := hx
       have hjl : j < xs.length := (List.getElem?_eq_some_iff.1 hs).1
       rw [(hcell j (by omega)).1]
       have := hvr' j (.str s) (by simp [hs]) 0 (.str s) rfl
       rw [Nat.mul_one, Nat.add_zero] at this
       rw [vr_str_inv this]
      have hc := Any.strings_Join L X b off cap bs ⟨sep.toArray⟩ w hcells hbk (by omega) (by omega) (by rw [hbs]; simpa using hlen.2)
      rw [hbs, hbl] at hc
      refine prim_pure hbt (hk ▸ hc) ?_
      rintro e w' ⟨rfl, hb⟩
      exact ⟨_, rfl, by simpa using vr_str _, hb⟩
  ·simp at hg
 ·simp at hg
theorem indexByte_ok {k : Nat} (hk : N.fn k = ρ.f 217) (L : Lays.n217 P ρ) : PrimOK N P k pIndexByte := by
 intro args r h h' hg w G vals hbt hsz hvr
 unfold pIndexByte at hg
 split at hg
 ·simp only [Option.some.injEq, Prod.mk.injEq] at hg
  obtain ⟨rfl, rfl⟩ := hg
  obtain ⟨v, u, rfl, hv, hu⟩ := two hsz hvr
  have := vr_str_inv hv; subst this
  cases hu
  refine prim_pure hbt (hk ▸ Any.stringslite_IndexByte L _ _ w) ?_
  rintro e w' ⟨rfl, rfl⟩
  exact ⟨_, rfl, by simpa using VR.int (N := N) (w := w') (fix := G.fix) (hp := G.heap) _ _, Below.refl _ _⟩
 ·simp at hg
theorem below_grow (w : World) (k : Nat) (os : Array Obj) : Below w.heap.size w (Go.Sort.grow (w.drewN k) os) := by
 refine ⟨rfl, rfl, rfl, by simp [Go.Sort.grow, World.drewN], fun j hj => ?_⟩
 simp [Go.Sort.grow, World.drewN, Array.getElem?_append, hj]
theorem itoa_ok {k : Nat} (hk : N.fn k = ρ.f 171) (L : LaysM.n171 P ρ) (htab : ∀ w fix, Tab N w fix → Lib.TabIs P w "internal/strconv.uint64pow10" .u64 Lib.pow10Tab) : PrimOK N P k pItoa := by
 intro args r h h' hg w G vals hbt hsz hvr
 unfold pItoa at hg
 split at hg
 ·split at hg
  ·rename_i hr
   simp only [Option.some.injEq, Prod.mk.injEq] at hg
   obtain ⟨rfl, rfl⟩ := hg
   obtain ⟨v, rfl, hv⟩ := one1 hsz hvr
   cases hv
   refine prim_pure hbt (hk ▸ Any.strconv_Itoa L _ hr.1 hr.2 w (htab w G.fix hbt.heap.2)) ?_
   rintro e w' ⟨rfl, j, os, rfl⟩
   exact ⟨_, rfl, vr_str _, below_grow w j os⟩
  ·simp at hg
 ·simp at hg
theorem below_bytesWorld (w : World) (e : TypeId) (s : ByteArray) : Below w.heap.size w (Lib.bytesWorld w e s) := by
 refine ⟨?_, ?_, ?_, by rw [Lib.bytesWorld_size]; omega, fun k hk => Lib.bytesWorld_at_old w e s k hk⟩
 all_goals simp [Lib.bytesWorld, World.freeze, World.alloc, World.drew, -World.alloc_eq, -World.drew_eq]
theorem atoi_ok {k : Nat} (hk : N.fn k = ρ.f 172) (hty : N.ty 0 = ρ.t 168) (L : LaysC.n172 P ρ) (h1 : ∀ w fix, Tab N w fix → ∃ tp p, w.var? P "strconv.ErrSyntax" = some #[.iface tp p])
  (h2 : ∀ w fix, Tab N w fix → ∃ tp p, w.var? P "strconv.ErrRange" = some #[.iface tp p]) : PrimOK N P k pAtoi := by
 intro args r h h' hg w G vals hbt hsz hvr
 unfold pAtoi at hg
 split at hg
 ·rename_i s
  split at hg
  ·rename_i hlen
   obtain ⟨v, rfl, hv⟩ := one1 hsz hvr
   have := vr_str_inv hv; subst this
   have hs : (⟨s.toArray⟩ : ByteArray).size = s.length := by simp [ByteArray.size]
   have hd : (⟨s.toArray⟩ : ByteArray).data.toList = s := by simp
   have pair : ∀ (w' : World) (n : Int) (v : Value) (p : PV), VR N w' G.fix G.heap v p → VR N w' G.fix G.heap (.tuple #[.int .i64 n, v]) (.tuple [.int .i64 n, p]) := by
    intro w' n v p hp
    refine .tuple _ _ rfl ?_
    intro i c q hc hq
    match i with
    | 0 => simp at hc hq; subst hc hq; exact .int _ _
    | 1 => simp at hc hq; subst hc hq; exact hp
    | i + 2 => simp at hc
   have err : ∀ (w' : World) (M : Nat), VR N w' G.fix G.heap (.iface (ρ.t 168) (.pointer (some ⟨M, 0, none⟩))) (.iface 0 (.cptr [])) := by
    intro w' M
    rw [← hty]
    exact .iface 0 _ _ (.cptr M 0 [] (fun _ => undef) (by simp) (by simp) (by simp))
   split at hg
   ·rename_i n hn
    simp only [Option.some.injEq, Prod.mk.injEq] at hg
    obtain ⟨rfl, rfl⟩ := hg
    refine prim_pure hbt (hk ▸ Any.strconv_Atoi_ok L ⟨s.toArray⟩ (by rw [hs]; omega) n (by rw [hd]; exact hn) w) ?_
    rintro e w' ⟨rfl, hw⟩
    refine ⟨_, rfl, pair _ _ _ _ .nilIface, ?_⟩
    rcases hw with rfl | ⟨t, rfl⟩
    ·exact Below.refl _ _
    ·exact below_bytesWorld _ _ _
   ·rename_i hn
    simp only [Option.some.injEq, Prod.mk.injEq] at hg
    obtain ⟨rfl, rfl⟩ := hg
    obtain ⟨tp, p, hvar⟩ := h1 w G.fix hbt.heap.2
    refine prim_pure hbt (hk ▸ Any.strconv_Atoi_syntax_var L ⟨s.toArray⟩ (by rw [hs]; exact hlen) (by rw [hd]; exact hn) tp p w hvar) ?_
    rintro e w' ⟨M, rfl, _, _, hb⟩
    exact ⟨_, rfl, pair _ _ _ _ (err _ M), hb⟩
   ·rename_i hn
    simp only [Option.some.injEq, Prod.mk.injEq] at hg
    obtain ⟨rfl, rfl⟩ := hg
    obtain ⟨tp, p, hvar⟩ := h2 w G.fix hbt.heap.2
    refine prim_pure hbt (hk ▸ Any.strconv_Atoi_range_var L ⟨s.toArray⟩ (by rw [hs]; exact hlen) (by rw [hd]; exact hn) tp p w hvar) ?_
    rintro e w' ⟨M, rfl, _, _, hb⟩
    rw [hd]
    exact ⟨_, rfl, pair _ _ _ _ (err _ M), hb⟩
  ·simp at hg
 ·simp at hg
end
end PI
