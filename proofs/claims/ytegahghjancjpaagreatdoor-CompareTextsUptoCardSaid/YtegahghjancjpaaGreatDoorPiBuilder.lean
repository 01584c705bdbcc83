import Derived.Test.YtegahghjancjpaaGreatDoorPiPrimOK
set_option linter.unusedSimpArgs false
set_option linter.unusedVariables false
namespace PI
open Go Go.RowKit Go.Shelf Go.Proofs
section
variable {N : Nm} {P : Program} {ρ : Ren}
structure But (K : Nat → Prop) (w w' : World) : Prop where
  os : w'.os = w.os
  tape : w'.tape = w.tape
  output : w'.output = w.output
  size : w.heap.size ≤ w'.heap.size
  block : ∀ k, k < w.heap.size → ¬ K k → w'.heap[k]? = w.heap[k]?
  shape : ShapeLe w w'
theorem shape_setCell (w : World) (p : Addr) (v : Value) : ShapeLe w (w.setCell p v) := by
  refine ⟨?_, ?_⟩
  rotate_left
  · intro b s h
    simp only [World.setCell, loopOf, Array.getElem?_modify] at h ⊢
    cases hb : w.heap[b]? with
    | none => rw [hb] at h; simp at h
    | some o =>
      rw [hb] at h
      by_cases hp : p.block = b
      · cases o <;> simp [hp] at h ⊢
        exact h
      · simp only [hp, if_false]; exact h
  intro b s h
  simp only [World.shape?, World.setCell, Array.getElem?_modify] at h ⊢
  cases hb : w.heap[b]? with
  | none => rw [hb] at h; simp at h
  | some o =>
    rw [hb] at h
    by_cases hp : p.block = b
    · cases o <;> simp [hp] at h ⊢
      rw [← h]
      split <;> simp
    · simp only [hp, if_false]; exact h
theorem shape_setCells (b : Nat) : ∀ (vs : List Value) (o : Nat) (w : World), ShapeLe w (w.setCells b o vs)
  | [], _, w => ShapeLe.refl w
  | v :: r, o, w => (shape_setCell w _ v).trans (shape_setCells b r (o + 1) _)
theorem shape_drew (w : World) : ShapeLe w w.drew := ShapeLe.refl w
theorem shape_alloc (w : World) (o : Obj) : ShapeLe w (w.alloc o) := .same fun k hk => Below.heap_alloc _ _ _ hk
theorem shape_freeze (w : World) (p : Addr) (n : Nat) : ShapeLe w (w.freeze p n) := by
  refine ⟨?_, ?_⟩
  rotate_left
  · intro b s h
    unfold World.freeze
    split
    · exact h
    · simp only [loopOf, Array.getElem?_modify] at h ⊢
      cases hb : w.heap[b]? with
      | none => rw [hb] at h; simp at h
      | some o =>
        rw [hb] at h
        by_cases hp : p.block = b
        · cases o <;> simp [hp] at h ⊢
          exact h
        · simp only [hp, if_false]; exact h
  intro b s h
  unfold World.freeze
  split
  · exact h
  · simp only [World.shape?, Array.getElem?_modify] at h ⊢
    cases hb : w.heap[b]? with
    | none => rw [hb] at h; simp at h
    | some o =>
      rw [hb] at h
      by_cases hp : p.block = b
      · cases o <;> simp [hp] at h ⊢
        exact h
      · simp only [hp, if_false]; exact h
theorem But.refl (K : Nat → Prop) (w : World) : But K w w := ⟨rfl, rfl, rfl, Nat.le_refl _, fun _ _ _ => rfl, ShapeLe.refl w⟩
theorem But.trans {K : Nat → Prop} {a b c : World} (h : But K a b) (k : But K b c) : But K a c :=
  ⟨k.os.trans h.os, k.tape.trans h.tape, k.output.trans h.output, Nat.le_trans h.size k.size, fun i hi hn => (k.block i (Nat.lt_of_lt_of_le hi h.size) hn).trans (h.block i hi hn), h.shape.trans k.shape⟩
theorem But.setCell {K : Nat → Prop} {a w : World} (h : But K a w) {p : Addr} (hp : K p.block) (u : Value) : But K a (w.setCell p u) :=
  h.trans ⟨rfl, rfl, rfl, by simp [World.setCell], fun k hk hn => Below.heap_setCell _ _ _ _ (fun e => hn (e ▸ hp)), shape_setCell _ _ _⟩
theorem But.drew {K : Nat → Prop} {a w : World} (h : But K a w) : But K a w.drew := ⟨h.os, h.tape, h.output, h.size, h.block, h.shape⟩
theorem But.alloc {K : Nat → Prop} {a w : World} (h : But K a w) (o : Obj) : But K a (w.alloc o) :=
  h.trans ⟨rfl, rfl, rfl, by simp, fun k hk _ => Below.heap_alloc _ _ _ hk, shape_alloc _ _⟩
theorem But.grown {K : Nat → Prop} {a w w' : World} {row : Option Nat} (h : But K a w) (hg : w.grownBy w' row) (hr : ∀ k, row = some k → K k) (hs : ShapeLe w w') : But K a w' :=
  h.trans ⟨hg.os, hg.tape, hg.output, hg.size, fun k hk hn => hg.block k hk (fun e => hn (hr k e.symm)), hs⟩
theorem But.freeze {K : Nat → Prop} {a w : World} (h : But K a w) {p : Addr} (hp : K p.block) (n : Nat) : But K a (w.freeze p n) := by
  refine h.trans ?_
  unfold World.freeze
  split
  · exact But.refl K w
  · exact ⟨rfl, rfl, rfl, by simp, fun k hk hn => by
      simp only [Array.getElem?_modify]
      have : ¬ p.block = k := fun e => hn (e ▸ hp)
      simp [this], by have := shape_freeze w p n; unfold World.freeze at this; simpa [*] using this⟩
theorem app_blk {w : World} (t u ty e : TypeId) (i : TypeInfo) (ht : P.underlying t = some (.slice e)) (hu : P.underlying u = some .string) (hi : P.info? e = some i) (hz : i.zero = some (.int .u8 0)) (hsize : i.size = 1) (hby : i.bytes = 1)
    (v : Value) (n : Nat) (xs : List Value) (hown : w.ownsRow 0 e 1 v n xs) (s : ByteArray) (hbytes : n + s.size ≤ 140737488355328) {v' : Value} {w' : World} (hr : (Builtin.append_ #[t, u] ty #[v, .string s]).run P w = .ok v' w') :
    (∀ g, v'.ownBlock = some g → v.ownBlock = some g ∨ w.heap.size ≤ g) ∧ ShapeLe w w' := by
  have hsrc : Src P i.size u (.string s) s.size (byteCells s) w := by rw [hsize]; exact Src.ofString w hu s
  have grow : ∀ (base : Option Addr) (cap : Nat) (olds : List Value), (Builtin.firstCells i.size n (.slice base n cap)).run P w.drew = .ok olds.toArray w.drew → cap < n + s.size → (Builtin.append_ #[t, u] ty #[.slice base n cap, .string s]).run P w = .ok v' w' → (∀ g, v'.ownBlock = some g → w.heap.size ≤ g) ∧ ShapeLe w w' := by
    intro base cap olds hold hcap hr
    have hrun := run_append_grow_src (P := P) w t u ty e i (.int .u8 0) ht hi hz base n cap olds hold (.string s) s.size (byteCells s) hsrc hcap (by omega) (growslice_fits hcap (by rw [hby]; omega))
    rw [hrun] at hr
    simp only [Result.ok.injEq] at hr
    obtain ⟨rfl, rfl⟩ := hr
    refine ⟨?_, (shape_drew w).trans (shape_alloc _ _)⟩
    intro g hg
    simp only [Value.ownBlock, Option.some.injEq] at hg
    omega
  rcases hown.2 with ⟨rfl, rfl⟩ | ⟨g0, cap, cur, rfl, _, hg, hnc, hcm, hcs, htake⟩
  · by_cases h0 : s.size = 0
    · have hc0 : (Builtin.firstCells i.size 0 (.string s)).run P w = .ok #[] w := by
        have := hsrc.cells
        rw [h0] at this
        have hb : byteCells s = [] := List.eq_nil_of_length_eq_zero (by rw [byteCells_length]; exact h0)
        rw [hb] at this; simpa using this
      have hl0 : (Builtin.lenOf (.string s)).run P w = .ok 0 w := by have := hsrc.len w; rw [h0] at this; simpa using this
      have hrun : (Builtin.append_ #[t, u] ty #[.slice none 0 0, .string s]).run P w = .ok (.slice none 0 0) w := by
        simp [Builtin.append_, run_underlying ht, run_underlying hu, Go.sizeOf, typeInfo, hi, hl0, hc0, storeCells]
      rw [hrun] at hr
      simp only [Result.ok.injEq] at hr
      obtain ⟨rfl, rfl⟩ := hr
      exact ⟨fun g hg => by simp [Value.ownBlock] at hg, ShapeLe.refl _⟩
    · have := grow none 0 [] (run_firstCells_none w.drew _ _ _ _) (by omega) hr
      exact ⟨fun g hg => .inr (this.1 g hg), this.2⟩
  · by_cases hroom : n + s.size ≤ cap
    · have hrun := run_append_room_src (P := P) w t u ty e i ht hi g0 0 n cap (.string s) s.size (byteCells s) hsrc hroom ?_ ?_
      · rw [hrun] at hr
        simp only [Result.ok.injEq] at hr
        obtain ⟨rfl, rfl⟩ := hr
        exact ⟨fun g hg => .inl hg, shape_setCells _ _ _ _⟩
      · intro j hj
        rw [byteCells_length] at hj
        have : n * i.size + j < cur.size := by rw [hcs, hsize]; omega
        simp [World.cell?, hg, this]
      · intro j hj
        simp [World.frozen?, hg]
    · have := grow (some ⟨g0, 0, none⟩) cap xs ?_ (by omega) hr
      exact ⟨fun g hg => .inr (this.1 g hg), this.2⟩
      rw [hsize]
      refine run_firstCells_some w.drew _ _ _ _ _ xs hown.1 ?_
      intro j u' hu'
      have := hown.cells (g := g0) rfl j u' hu'
      simpa [addr_add] using this
theorem wpList_app {w : World} {ops : Array Oper} {rest : List Oper} {o : Oper} {a : Act} {Q : Exit → Act → World → Prop} (hgd : o.guard = none) (sl x : Operand) (t u : TypeId)
    (ho : o.op = .call { callee := .builtin .append, args := #[sl, x], argTypes := #[t, u] })
    (e : TypeId) (i : TypeInfo) (ht : P.underlying t = some (.slice e)) (hu : P.underlying u = some .string) (hi : P.info? e = some i) (hz : i.zero = some (.int .u8 0))
    (hsize : i.size = 1) (hby : i.bytes = 1)
    (v : Value) (n : Nat) (xs : List Value) (hs : a.eval sl = v) (hown : w.ownsRow 0 e 1 v n xs) (s : ByteArray) (hx : a.eval x = .string s)
    (h63 : n + s.size ≤ maxLen) (hbytes : n + s.size ≤ 140737488355328)
    (h : ∀ v' w', w'.ownsRow 0 e 1 v' (n + s.size) (xs ++ Lib.strCells s) → w.grownBy w' v.ownBlock → (∀ g, v'.ownBlock = some g → v.ownBlock = some g ∨ w.heap.size ≤ g) → ShapeLe w w' → wpList P ops Q rest (a.put o.dst v') w') : wpList P ops Q (o :: rest) a w := by
  refine wpList_plain hgd fun K hK => ?_
  obtain ⟨v', w', hr, h2, h3, h4⟩ := Lib.run_append_own_string (P := P) w 0 t u o.type e i ht hu hi hz hsize hby v n xs hown s h63 hbytes (Nat.zero_le _)
  have hb := app_blk (P := P) t u o.type e i ht hu hi hz hsize hby v n xs hown s hbytes hr
  unfold Oper.wp execOp
  simp only [ho, resolve, invoke, builtin, Sem.run_bind, Sem.run_pure, Result.andThen_ok, List.map_toArray, List.map_cons, List.map_nil, hs, hx, hr]
  exact hK _ _ (h v' w' h2 h3 hb.1 hb.2)
set_option maxHeartbeats 1000000 in
structure W166 (P : Program) (ρ : Ren) : Prop where
  mixed : P.follows .mixedOrders = true
  f166 : P.funcs[ρ.f 166]? = some (Body.n166 ρ)
  t72 : P.underlying (ρ.t 72) = some (TypeDesc.struct #[{ name := "addr", type := ρ.t 70, offset := 0, embedded := false, tag := "", pkgPath := "strings", byteOffset := 0 }, { name := "buf", type := ρ.t 37, offset := 1, embedded := false, tag := "", pkgPath := "strings", byteOffset := 8 }])
  a72 : ∀ w, (isAgg (ρ.t 72)).run P w = .ok true w
  z72 : ∀ w, (Go.sizeOf (ρ.t 72)).run P w = .ok 2 w
  v72 : ∀ w, (zeroValue (ρ.t 72)).run P w = .ok (Value.agg #[Value.pointer none, Value.slice none 0 0]) w
  t70 : P.underlying (ρ.t 70) = some (TypeDesc.pointer (ρ.t 72))
  a70 : ∀ w, (isAgg (ρ.t 70)).run P w = .ok false w
  z70 : ∀ w, (Go.sizeOf (ρ.t 70)).run P w = .ok 1 w
  v70 : ∀ w, (zeroValue (ρ.t 70)).run P w = .ok (Value.pointer none) w
  t37 : P.underlying (ρ.t 37) = some (TypeDesc.slice (ρ.t 5))
  a37 : ∀ w, (isAgg (ρ.t 37)).run P w = .ok false w
  z37 : ∀ w, (Go.sizeOf (ρ.t 37)).run P w = .ok 1 w
  v37 : ∀ w, (zeroValue (ρ.t 37)).run P w = .ok (Value.slice none 0 0) w
  t3 : P.underlying (ρ.t 3) = some (TypeDesc.int IntKind.i64)
  a3 : ∀ w, (isAgg (ρ.t 3)).run P w = .ok false w
  z3 : ∀ w, (Go.sizeOf (ρ.t 3)).run P w = .ok 1 w
  v3 : ∀ w, (zeroValue (ρ.t 3)).run P w = .ok (Value.int IntKind.i64 0) w
  t9 : P.underlying (ρ.t 9) = some (TypeDesc.string)
  a9 : ∀ w, (isAgg (ρ.t 9)).run P w = .ok false w
  z9 : ∀ w, (Go.sizeOf (ρ.t 9)).run P w = .ok 1 w
  v9 : ∀ w, (zeroValue (ρ.t 9)).run P w = .ok (Value.string { data := #[] }) w
  t4 : P.underlying (ρ.t 4) = some (TypeDesc.bool)
  a4 : ∀ w, (isAgg (ρ.t 4)).run P w = .ok false w
  z4 : ∀ w, (Go.sizeOf (ρ.t 4)).run P w = .ok 1 w
  v4 : ∀ w, (zeroValue (ρ.t 4)).run P w = .ok (Value.bool false) w
  e240 : ∀ args w, (callFunc (ρ.f 240) args).run P w = .ok (.enter (ρ.f 240) args) w
  fresh : ∀ (b : Nat) (w : World), w.cell? ⟨b, 0, none⟩ = some (.pointer none) → w.shape? b = some ((ρ.t 72), 2) → w.frozen? ⟨b, 0, none⟩ = false →
    Calls P (ρ.f 240) #[.pointer (some ⟨b, 0, none⟩)] w fun e w' => e = .returned (.tuple #[]) ∧ w' = w.setCell ⟨b, 0, none⟩ (.pointer (some ⟨b, 0, none⟩))
  used : ∀ (b : Nat) (w : World), w.cell? ⟨b, 0, none⟩ = some (.pointer (some ⟨b, 0, none⟩)) →
    Calls P (ρ.f 240) #[.pointer (some ⟨b, 0, none⟩)] w fun e w' => e = .returned (.tuple #[]) ∧ w' = w
set_option maxRecDepth 100000 in
theorem wstr_but (L : W166 P ρ) (X : Builder.Extra P ρ) (b : Nat) (bs : List Value) (s : ByteArray) (w : World) (p v : Value) (hp : p = .pointer none ∨ p = .pointer (some ⟨b, 0, none⟩))
    (hbk : w.heap[b]? = some (.cells #[p, v] (ρ.t 72) (0, 0))) (hown : w.ownsRow 0 (ρ.t 5) 1 v bs.length bs) (hne : v.ownBlock ≠ some b) (hlen : bs.length + s.size ≤ 140737488355328) :
    Calls P (ρ.f 166) #[.pointer (some ⟨b, 0, none⟩), .string s] w fun e w' => e = .returned (.tuple #[.int .i64 s.size, .nilIface]) ∧
      (∃ v', w'.heap[b]? = some (.cells #[.pointer (some ⟨b, 0, none⟩), v'] (ρ.t 72) (0, 0)) ∧ w'.ownsRow 0 (ρ.t 5) 1 v' (bs.length + s.size) (bs ++ Lib.strCells s) ∧ v'.ownBlock ≠ some b ∧
        (∀ g, v'.ownBlock = some g → v.ownBlock = some g ∨ w.heap.size ≤ g)) ∧ But (fun k => k = b ∨ v.ownBlock = some k) w w' := by
  obtain ⟨i0, hi, hz0, hz1, hz2⟩ := info_parts X.infoByte
  have mixed := L.mixed
  have t72 := L.t72; have a72 := L.a72; have z72 := L.z72; have v72 := L.v72; have u72 := run_underlying L.t72
  have t70 := L.t70; have a70 := L.a70; have z70 := L.z70; have v70 := L.v70; have u70 := run_underlying L.t70
  have t37 := L.t37; have a37 := L.a37; have z37 := L.z37; have v37 := L.v37; have u37 := run_underlying L.t37
  have t3 := L.t3; have a3 := L.a3; have z3 := L.z3; have v3 := L.v3; have u3 := run_underlying L.t3
  have t9 := L.t9; have a9 := L.a9; have z9 := L.z9; have v9 := L.v9; have u9 := run_underlying L.t9
  have t4 := L.t4; have a4 := L.a4; have z4 := L.z4; have v4 := L.v4; have u4 := run_underlying L.t4
  have t5 := X.t5; have a5 := X.a5; have z5 := X.z5; have v5 := X.v5; have u5 := run_underlying X.t5
  have e240 := L.e240
  have hcc : Calls P (ρ.f 240) #[.pointer (some ⟨b, 0, none⟩)] w fun e w1 => e = .returned (.tuple #[]) ∧ w1.heap[b]? = some (.cells #[.pointer (some ⟨b, 0, none⟩), v] (ρ.t 72) (0, 0)) ∧ w1.ownsRow 0 (ρ.t 5) 1 v bs.length bs ∧ w1.heap.size = w.heap.size ∧ But (fun k => k = b ∨ v.ownBlock = some k) w w1 := by
    rcases hp with rfl | rfl
    · refine (L.fresh b w (by rw [Lib.cell_of_heap hbk]; rfl) (by simp [World.shape?, hbk]) (Lib.frozen_of_heap hbk 0)).mono ?_
      rintro e w' ⟨rfl, rfl⟩
      have hu := Lib.BuilderAt.used (T := ρ.t 72) (e := ρ.t 5) (B := 0) (b := b) (p := .pointer none) (bs := bs) (w := w) ⟨Nat.zero_le _, v, hbk, hown, hne⟩ (.pointer (some ⟨b, 0, none⟩))
      obtain ⟨_, v2, h1, h2, h3⟩ := hu
      have hv : v2 = v := by
        have : (w.setCell ⟨b, 0, none⟩ (.pointer (some ⟨b, 0, none⟩))).heap[b]? = some (.cells #[.pointer (some ⟨b, 0, none⟩), v] (ρ.t 72) (0, 0)) := by
          simp [World.setCell, Array.getElem?_modify, hbk]
        rw [this] at h1
        simpa using h1.symm
      subst hv
      exact ⟨rfl, h1, h2, by simp [World.setCell], (But.refl _ w).setCell (p := ⟨b, 0, none⟩) (.inl rfl) _⟩
    · refine (L.used b w (by rw [Lib.cell_of_heap hbk]; rfl)).mono ?_
      rintro e w' ⟨rfl, rfl⟩
      exact ⟨rfl, hbk, hown, rfl, But.refl _ _⟩
  go_enter L.f166, Body.n166_ntmps ρ
  go_wp2_with (go_at_fn (ρ.f 240); refine hcc.mono ?_)
  rintro e w1 ⟨rfl, hbk, hown, hsz1, hb1⟩
  have c0 : w1.cell? ⟨b, 0, none⟩ = some (.pointer (some ⟨b, 0, none⟩)) := by rw [Lib.cell_of_heap hbk]; rfl
  have c1 : w1.cell? ⟨b, 1, none⟩ = some v := by rw [Lib.cell_of_heap hbk]; rfl
  go_wp2_with (at_builtin; refine wpList_app rfl _ _ (ρ.t 37) (ρ.t 9) rfl (ρ.t 5) i0 L.t37 L.t9 hi hz0 hz1 hz2 _ _ _ rfl hown s rfl ?c3 ?c4 ?_)
  case c3 => unfold maxLen; omega
  case c4 => omega
  intro v' w2 hown' hgrow hblk hshp
  have hlt : b < w1.heap.size := by
    rcases Nat.lt_or_ge b w1.heap.size with h' | h'
    · exact h'
    · simp [Array.getElem?_eq_none h'] at hbk
  have hb2 : w2.heap[b]? = some (.cells #[.pointer (some ⟨b, 0, none⟩), v] (ρ.t 72) (0, 0)) := by
    rw [hgrow.block b hlt (fun e => hne e.symm)]
    exact hbk
  have d0 : w2.cell? ⟨b, 0, none⟩ = some (.pointer (some ⟨b, 0, none⟩)) := by rw [Lib.cell_of_heap hb2]; rfl
  have d1 : w2.cell? ⟨b, 1, none⟩ = some v := by rw [Lib.cell_of_heap hb2]; rfl
  have f1 : w2.frozen? ⟨b, 1, none⟩ = false := Lib.frozen_of_heap hb2 1
  obtain ⟨ao, n', cap, rfl⟩ : ∃ ao n' cap, v' = .slice ao n' cap := by
    rcases hown'.2 with ⟨hv, _⟩ | ⟨g, cap, cur, hv, _⟩
    · exact ⟨_, _, _, hv⟩
    · exact ⟨_, _, _, hv⟩
  go_wp2
  go_ret2
  have hrow : ∀ g, Value.ownBlock (.slice ao n' cap) = some g → v.ownBlock = some g ∨ w.heap.size ≤ g := hblk
  have hne' : Value.ownBlock (.slice ao n' cap) ≠ some b := by
    intro e
    rcases hrow b e with h | h
    · exact hne h
    · omega
  refine ⟨rfl, ⟨_, by simp [World.setCell, Array.getElem?_modify, hb2], ?_, hne', hrow⟩, ?_⟩
  · have := hown'.kept (row := some b) (w' := w2.setCell ⟨b, 1, none⟩ (.slice ao n' cap)) ⟨rfl, rfl, rfl, by simp [World.setCell], fun k _ hk => Below.heap_setCell _ _ _ _ (fun e => hk (by simp [e]))⟩ (.inr hne')
    simpa [Lib.strCells_length] using this
  · exact (hb1.grown hgrow (fun k hk => .inr hk) hshp).setCell (p := ⟨b, 1, none⟩) (.inl rfl) _
set_option maxHeartbeats 1000000 in
set_option maxRecDepth 100000 in
theorem bstr_but (L : Lays.n169 P ρ) (X : Builder.Extra P ρ) (b g cap : Nat) (cur : Array Value) (p : Value) (l : List UInt8) (w : World) (h0 : l ≠ [])
    (hbk : w.heap[b]? = some (.cells #[p, .slice (some ⟨g, 0, none⟩) l.length cap] (ρ.t 72) (0, 0))) (hg : w.heap[g]? = some (.cells cur (ρ.t 5) (0, 0))) (hnc : l.length ≤ cap) (hcm : cap ≤ maxLen) (hcs : cur.size = cap) (htake : cur.toList.take l.length = Lib.byteCells l) :
    Calls P (ρ.f 169) #[.pointer (some ⟨b, 0, none⟩)] w fun e w' => e = .returned (.string ⟨l.toArray⟩) ∧ But (fun k => k = g) w w' := by
  have hl0 : l.length ≠ 0 := by simpa using h0
  have c1 : w.drew.cell? ⟨b, 1, none⟩ = some (.slice (some ⟨g, 0, none⟩) l.length cap) := by
    have : w.drew.heap[b]? = some (.cells #[p, .slice (some ⟨g, 0, none⟩) l.length cap] (ρ.t 72) (0, 0)) := hbk
    rw [Lib.cell_of_heap this]; rfl
  have hSD : (Builtin.unsafeSliceData_ #[(ρ.t 37)] (ρ.t 127) #[.slice (some ⟨g, 0, none⟩) l.length cap]).run P w.drew = .ok (.pointer (some ⟨g, 0, none⟩)) w.drew :=
    Lib.run_unsafeSliceData_row _ _ _ _ _ _ (by omega)
  have hUS : (Builtin.unsafeString_ #[(ρ.t 127), (ρ.t 3)] (ρ.t 9) #[.pointer (some ⟨g, 0, none⟩), .int .i64 l.length]).run P w.drew = .ok (.string ⟨l.toArray⟩) (w.drew.freeze ⟨g, 0, none⟩ l.length) := by
    refine Lib.run_unsafeString_row w.drew (ρ.t 127) (ρ.t 3) (ρ.t 9) (ρ.t 5) L.t127 X.cellsByte g cur.size (by have hg' : w.drew.heap[g]? = some (.cells cur (ρ.t 5) (0, 0)) := hg; simp [World.shape?, hg']) l h0 (by omega) (by unfold maxLen at hcm; omega) ?_
    intro j x hx
    have hj : j < l.length := (List.getElem?_eq_some_iff.1 hx).1
    have h1 : cur.toList[j]? = some (.int .u8 x.toNat) := by
      have h2 : (cur.toList.take l.length)[j]? = some (.int .u8 x.toNat) := by rw [htake]; simp [Lib.byteCells, hx]
      rw [List.getElem?_take, if_pos hj] at h2
      exact h2
    have e : (⟨g, 0, none⟩ : Addr).add j = ⟨g, j, none⟩ := by rw [addr_add, Nat.zero_add]
    rw [e]
    show w.cell? ⟨g, j, none⟩ = _
    simp only [World.cell?, hg]
    simpa using h1
  have mixed := L.mixed
  have t72 := L.t72; have a72 := L.a72; have z72 := L.z72; have v72 := L.v72; have u72 := run_underlying L.t72
  have t70 := L.t70; have a70 := L.a70; have z70 := L.z70; have v70 := L.v70; have u70 := run_underlying L.t70
  have t37 := L.t37; have a37 := L.a37; have z37 := L.z37; have v37 := L.v37; have u37 := run_underlying L.t37
  have t127 := L.t127; have a127 := L.a127; have z127 := L.z127; have v127 := L.v127; have u127 := run_underlying L.t127
  have t3 := L.t3; have a3 := L.a3; have z3 := L.z3; have v3 := L.v3; have u3 := run_underlying L.t3
  have t9 := L.t9; have a9 := L.a9; have z9 := L.z9; have v9 := L.v9; have u9 := run_underlying L.t9
  have t5 := X.t5; have a5 := X.a5; have z5 := X.z5; have v5 := X.v5; have u5 := run_underlying X.t5
  clear htake hcs hnc hcm hg hbk
  go_enter L.f169, Body.n169_ntmps ρ
  go_wp2
  go_region_o
  all_goals (go_wp2; go_ret; exact ⟨rfl, ((But.refl (fun k => k = g) w).drew).freeze (p := ⟨g, 0, none⟩) rfl _⟩)
theorem strCells_byteCells (s : List UInt8) : Lib.strCells ⟨s.toArray⟩ = Lib.byteCells s := by simp [Lib.strCells, Lib.byteCells]
theorem byteCells_append (a b : List UInt8) : Lib.byteCells (a ++ b) = Lib.byteCells a ++ Lib.byteCells b := by simp [Lib.byteCells]
theorem byteCells_len (a : List UInt8) : (Lib.byteCells a).length = a.length := by simp [Lib.byteCells]
def GS.row (G : GS) (r : Option Nat) (k : Key) : GS := { G with ow := fun b => if r = some b then some k else G.ow b }
theorem wstr_ok {k : Nat} (hk : N.fn k = ρ.f 166) (hT : N.bT = ρ.t 72) (hE : N.bE = ρ.t 5) (L : W166 P ρ) (X : Builder.Extra P ρ) : PrimOK N P k pWriteString := by
  intro args r h h' hg w G vals hbt hsz hvr
  unfold pWriteString at hg
  split at hg
  · rename_i n s
    split at hg
    · rename_i bs hob
      split at hg
      · rename_i hlen
        simp only [Option.some.injEq, Prod.mk.injEq] at hg
        obtain ⟨rfl, rfl⟩ := hg
        obtain ⟨v, u, rfl, hv, hu⟩ := two hsz hvr
        have := vr_str_inv hu; subst this
        cases hv with
        | ptr _ _ b hb =>
          obtain ⟨b', k1, k2, hnf, p, v, hbk, hp, hv⟩ := (hbt.heap.1 n _ hob).resolve_left (by simp)
          have : b' = b := by rw [hb] at k1; cases k1; rfl
          subst this
          rw [hT] at hbk
          have hown : w.ownsRow 0 (ρ.t 5) 1 v (Lib.byteCells bs).length (Lib.byteCells bs) := by
            refine ⟨by omega, ?_⟩
            rcases hv with ⟨h1, h2⟩ | ⟨g, cap, cur, h1, h2, h3, h4, h5, h6, h7, h8⟩
            · exact .inl ⟨h1, by rw [h2]; rfl⟩
            · refine .inr ⟨g, cap, cur, by rw [byteCells_len]; exact h1, Nat.zero_le _, by rw [← hE]; exact h4, by rw [byteCells_len]; exact h5, h6, by omega, ?_⟩
              rw [byteCells_len, Nat.mul_one]; exact h8
          have hrow : ∀ g, v.ownBlock = some g → G.ow g = some (.hcell n 1) ∧ ∀ o, ¬ G.fix g o := by
            intro g hg
            rcases hv with ⟨h1, h2⟩ | ⟨g', cap, cur, h1, h2, h3, _⟩
            · rw [h1] at hg; simp [Value.ownBlock] at hg
            · rw [h1] at hg; simp only [Value.ownBlock, Option.some.injEq] at hg; subst hg; exact ⟨h2, h3⟩
          have hne : v.ownBlock ≠ some b' := by
            intro e
            have := (hrow _ e).1
            rw [k2] at this; simp at this
          have hs : (⟨s.toArray⟩ : ByteArray).size = s.length := by simp [ByteArray.size]
          refine (hk ▸ wstr_but L X b' (Lib.byteCells bs) ⟨s.toArray⟩ w p v hp hbk hown hne (by rw [byteCells_len, hs]; exact hlen)).mono ?_
          rintro e w' ⟨rfl, ⟨v', hbk', hown', hne', hrow'⟩, hbut⟩
          rw [hs, strCells_byteCells, ← byteCells_append, byteCells_len] at hown'
          let G' : GS := G.row v'.ownBlock (.hcell n 1)
          have hblt : b' < w.heap.size := hbt.owlt _ _ k2
          have hgnew : ∀ g, v'.ownBlock = some g → G.ow g = some (.hcell n 1) ∨ w.heap.size ≤ g := fun g hg => (hrow' g hg).imp (fun h => (hrow g h).1) id
          have hkept : ∀ x, x < w.heap.size → G.ow x ≠ some (.hobj n) → G.ow x ≠ some (.hcell n 1) → w'.heap[x]? = w.heap[x]? := by
            intro x hx h1 h2
            refine hbut.block x hx ?_
            rintro (rfl | h)
            · exact h1 k2
            · exact h2 (hrow x h).1
          have hext : Ext w G w' G' := by
            refine ⟨hbut.os, hbut.tape, hbut.output, hbut.size, fun x hx h => hkept x hx (by rw [h]; simp) (by rw [h]; simp), ?_, fun _ _ h => .inl h, ?_, fun _ _ h => h, hbut.shape, rfl⟩
            · intro x o hf
              refine ⟨hf, ?_⟩
              have hx := hbt.fixlt _ _ hf
              simp only [World.cell?]
              rw [hbut.block x hx ?_]
              rintro (rfl | h)
              · exact hnf _ hf
              · exact (hrow x h).2 _ hf
            · intro x hx
              simp only [G', GS.row] at hx
              split at hx
              · rename_i hx'
                rcases hgnew x hx' with h | h
                · exact .inr (by rw [h]; simp)
                · exact .inl h
              · exact .inr hx
          have hkeep : Keep (fun k => k = .hobj n ∨ k = .hcell n 1) w G w' G' := by
            refine ⟨?_, fun _ _ h => h⟩
            intro x key hx hn
            have hlt := hbt.owlt _ _ hx
            refine ⟨?_, hkept x hlt ?_ ?_, fun _ h => h⟩
            · simp only [G', GS.row]
              rw [if_neg]
              · exact hx
              · intro e
                rcases hgnew x e with h | h
                · rw [hx] at h; simp at h; exact hn (.inr h)
                · omega
            · rw [hx]; intro e; simp at e; exact hn (.inl e)
            · rw [hx]; intro e; simp at e; exact hn (.inr e)
          have hlt' : ∀ g, v'.ownBlock = some g → g < w'.heap.size := by
            intro g hg
            rcases hown'.2 with ⟨h1, _⟩ | ⟨g', cap, cur, h1, _, h3, _⟩
            · rw [h1] at hg; simp [Value.ownBlock] at hg
            · rw [h1] at hg; simp only [Value.ownBlock, Option.some.injEq] at hg; subst hg
              exact (Array.getElem?_eq_some_iff.1 h3).1
          have how : G'.ow b' = some (.hobj n) := by
            simp only [G', GS.row]; rw [if_neg hne']; exact k2
          have hnfix : ∀ g, v'.ownBlock = some g → ∀ o, ¬ G'.fix g o := by
            intro g hg o hf
            rcases hrow' g hg with h | h
            · exact (hrow g h).2 o hf
            · have := hbt.fixlt _ _ hf; omega
          refine ⟨_, G', rfl, ?_, hext, ⟨⟨?_, hbt.only.box⟩, fun x o hf => Nat.lt_of_lt_of_le (hbt.fixlt x o hf) hbut.size, ?_, ?_, ?_⟩⟩
          · refine .tuple _ _ rfl ?_
            intro i c q hc hq
            match i with
            | 0 => simp at hc hq; subst hc hq; rw [hs]; exact .int _ _
            | 1 => simp at hc hq; subst hc hq; exact .nilIface
            | i + 2 => simp at hc
          · intro x key hx
            simp only [G', GS.row] at hx
            split at hx
            · simp at hx; subst hx; rfl
            · exact hbt.only.ow x key hx
          · intro x key hx
            simp only [G', GS.row] at hx
            split at hx
            · exact hlt' x (by assumption)
            · exact Nat.lt_of_lt_of_le (hbt.owlt x key hx) hbut.size
          · refine hbt.heap.keepBut hext hkeep (fun m k hne => ⟨by simp; omega, by simp; omega⟩) (fun _ => .inr ⟨b', hb, how, hnf, _, v', by rw [hT]; exact hbk', .inr rfl, ?_⟩)
            rcases hown'.2 with ⟨h1, h2⟩ | ⟨g, cap, cur, h1, _, h3, h4, h5, h6, h7⟩
            · refine .inl ⟨h1, List.eq_nil_of_length_eq_zero ?_⟩
              simpa using h2
            · refine .inr ⟨g, cap, cur, by rw [h1]; simp, ?_, hnfix g (by rw [h1]; rfl), by rw [hE]; exact h3, by simpa using h4, h5, by omega, ?_⟩
              · simp only [G', GS.row]; rw [if_pos (by rw [h1]; rfl)]
              · rw [← h7]; simp
          · intro m x h; have := hbt.hdom m x h; simpa using this
      · simp at hg
    · simp at hg
  · simp at hg
theorem bstr_ok {k : Nat} (hk : N.fn k = ρ.f 169) (hT : N.bT = ρ.t 72) (hE : N.bE = ρ.t 5) (L : Lays.n169 P ρ) (X : Builder.Extra P ρ) : PrimOK N P k pBString := by
  intro args r h h' hg w G vals hbt hsz hvr
  unfold pBString at hg
  split at hg
  · rename_i n
    split at hg
    · rename_i bs hob
      simp only [Option.some.injEq, Prod.mk.injEq] at hg
      obtain ⟨rfl, rfl⟩ := hg
      obtain ⟨v, rfl, hv⟩ := one1 hsz hvr
      cases hv with
      | ptr _ _ b hb =>
        obtain ⟨b', k1, k2, hnf, p, v, hbk, hp, hv⟩ := (hbt.heap.1 n _ hob).resolve_left (by simp)
        have : b' = b := by rw [hb] at k1; cases k1; rfl
        subst this
        rw [hT] at hbk
        have finish : ∀ w', But (fun k => G.ow k = some (.hcell n 1) ∧ ∀ o, ¬ G.fix k o) w w' → ∃ v G', (Ending.returned (.string ⟨bs.toArray⟩)) = .returned v ∧ VR N w' G'.fix G'.heap v (.str bs) ∧ Ext w G w' G' ∧ Between N w' G' (h.set n .gone) := by
          intro w' hbut
          have hext : Ext w G w' G := by
            refine ⟨hbut.os, hbut.tape, hbut.output, hbut.size, fun x hx h => hbut.block x hx (by rw [h]; simp), ?_, fun _ _ h => .inl h, fun _ h => .inr h, fun _ _ h => h, hbut.shape, rfl⟩
            intro x o hf
            refine ⟨hf, ?_⟩
            simp only [World.cell?]
            rw [hbut.block x (hbt.fixlt _ _ hf) (fun h => h.2 o hf)]
          have hkeep : Keep (fun k => k = .hcell n 1) w G w' G := by
            refine ⟨?_, fun _ _ h => h⟩
            intro x key hx hn
            refine ⟨hx, hbut.block x (hbt.owlt _ _ hx) ?_, fun _ h => h⟩
            rintro ⟨h1, _⟩
            rw [hx] at h1; simp at h1; exact hn h1
          refine ⟨_, G, rfl, vr_str bs, hext, ⟨hbt.only, fun x o hf => Nat.lt_of_lt_of_le (hbt.fixlt x o hf) hbut.size, fun x key hx => Nat.lt_of_lt_of_le (hbt.owlt x key hx) hbut.size, ?_, ?_⟩⟩
          · exact hbt.heap.keepBut hext hkeep (fun m k hne => ⟨by simp, by simp; omega⟩) (fun _ => .inl rfl)
          · intro m x h; have := hbt.hdom m x h; simpa using this
        have ofBelow : ∀ w', Below w.heap.size w w' → But (fun k => G.ow k = some (.hcell n 1) ∧ ∀ o, ¬ G.fix k o) w w' := fun w' h => ⟨h.os, h.tape, h.output, h.size, fun x hx _ => h.block x hx, .same fun x hx => h.block x hx⟩
        rcases hv with ⟨rfl, rfl⟩ | ⟨g, cap, cur, rfl, h2, h3, h4, h5, h6, h7, h8⟩
        · refine (hk ▸ Any.Builder_String_nil L X w.heap.size b' p w hbk).mono ?_
          rintro e w' ⟨rfl, hb'⟩
          exact finish w' (ofBelow w' hb')
        · by_cases h0 : bs = []
          · subst h0
            by_cases hc0 : cap = 0
            · subst hc0
              refine (hk ▸ Any.Builder_String_noroom L X w.heap.size b' g p cur w (Nat.le_refl _) hbk (by rw [← hE]; exact h4)).mono ?_
              rintro e w' ⟨rfl, hb'⟩
              exact finish w' (ofBelow w' hb')
            · refine (hk ▸ Any.Builder_String_room L X w.heap.size b' g cap p w hc0 hbk).mono ?_
              rintro e w' ⟨rfl, hb'⟩
              exact finish w' (ofBelow w' hb')
          · refine (hk ▸ bstr_but L X b' g cap cur p bs w h0 hbk (by rw [← hE]; exact h4) h5 h6 h7 h8).mono ?_
            rintro e w' ⟨rfl, hb'⟩
            refine finish w' ⟨hb'.os, hb'.tape, hb'.output, hb'.size, fun x hx hn => hb'.block x hx ?_, hb'.shape⟩
            rintro rfl
            exact hn ⟨h2, h3⟩
    · simp at hg
  · simp at hg
end
end PI
