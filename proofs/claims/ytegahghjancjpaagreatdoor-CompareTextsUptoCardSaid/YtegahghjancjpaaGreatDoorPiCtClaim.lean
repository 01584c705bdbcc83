/-
  CompareTexts holds of the translated program where what it reads is of bulk at most 1048576: the law returns true and leaves its arguments as they were. No further condition; proved by way of a pure interpreter that is shown to be sound for the machine.
-/
import Derived.Test.YtegahghjancjpaaGreatDoorTie
import Derived.Test.YtegahghjancjpaaGreatDoorCards
import Derived.Test.YtegahghjancjpaaGreatDoorPiCtSeat
import Derived.Test.YtegahghjancjpaaGreatDoorPiCtRec
import Derived.Test.YtegahghjancjpaaGreatDoorPiTryzPlain
import Derived.Test.YtegahghjancjpaaGreatDoorPiTzBld
import Derived.Test.YtegahghjancjpaaGreatDoorPiCtCmp1
import Derived.Test.YtegahghjancjpaaGreatDoorPiClose
import Derived.Test.YtegahghjancjpaaGreatDoorPiBuilder
import Derived.WalkKit
import Derived.ProofKit
import Derived.OpenShut
import Derived.SizedLaws
import Derived.Handed
import Derived.Lay
import Derived.LaidSub
import Derived.Lib.LaidTab
import Derived.Stop.LaidErr
import Derived.SevenTiedAt
import Derived.Deep.DeepHandedRow
set_option maxRecDepth 100000
set_option linter.unusedVariables false
namespace Go.Proofs.YtegahghjancjpaaGreatDoor.Pi
open Go.ChangeShapes Go.WideShapes Go.ChangeAt Go.RowKit PI PI.Tr
theorem own : ownKnob Tryz.prog.godebug = none := by kernel_rfl
def D : Nat → TyD
  | 0 => .str
  | 1 => .int .i64
  | 2 => .slice 0 16
  | 3 => .struct [0, 2]
  | 4 => .slice 3 40
  | 5 => .struct [0, 1, 1]
  | 6 => .slice 5 32
  | 7 => .struct [0, 1, 6]
  | 8 => .slice 7 48
  | 9 => .struct [1, 1]
  | 10 => .slice 9 16
  | 11 => .slice 10 24
  | _ => .struct [8, 11]
def tm : Nat → TypeId
  | 0 => 9
  | 1 => 3
  | 2 => 46
  | 3 => 102
  | 4 => 22
  | 5 => 95
  | 6 => 47
  | 7 => 49
  | 8 => 23
  | 9 => 60
  | 10 => 52
  | 11 => 24
  | _ => 26
theorem matchAll : (List.range 13).all (fun i => matchT Tryz.prog D tm 13 i) = true := by kernel_rfl
theorem matches' : ∀ i, i < 13 → matchT Tryz.prog D tm 13 i = true := by
  intro i hi
  exact List.all_eq_true.1 matchAll i (by simpa using hi)
theorem laidOut : laidOutB Tryz.prog = true := by kernel_rfl
theorem typesOk : (List.range 13).all (fun i => Tryz.prog.readableRec (tm i) && decide (tm i < Tryz.prog.types.size)) = true := by kernel_rfl
theorem types' (i : Nat) (hi : i < 13) : i < 13 ∧ Tryz.prog.readableRec (tm i) = true ∧ tm i < Tryz.prog.types.size := by
  have := List.all_eq_true.1 typesOk i (by simpa using hi)
  simp only [Bool.and_eq_true, decide_eq_true_eq] at this
  exact ⟨hi, this⟩
def laid : List (String × DataW Unit) := [("math/bits.deBruijn32tab", Rows.laid_math_bits_deBruijn32tab), ("math/bits.deBruijn64tab", Rows.laid_math_bits_deBruijn64tab), ("internal/strconv.uint64pow10", Rows.laid_internal_strconv_uint64pow10), ("strconv.ErrRange", Rows.laid_strconv_ErrRange), ("strconv.ErrSyntax", Rows.laid_strconv_ErrSyntax)]
theorem noHandles : (laid.filter fun x => x.2.handleName?.isSome) = [] := by kernel_rfl
theorem laid_of {w : World} (h : laidMetH Tryz.prog laid w) : laidMet Tryz.prog laid w := by
  unfold laidMetH at h
  rw [noHandles] at h
  exact h
theorem laid_to {w : World} (h : laidMet Tryz.prog laid w) : laidMetH Tryz.prog laid w := by
  unfold laidMetH
  rw [noHandles]
  exact h
theorem gP : Tryz.prog.globalNamed "internal/strconv.uint64pow10" = some 3 := by kernel_rfl
theorem gR : Tryz.prog.globalNamed "strconv.ErrRange" = some 2 := by kernel_rfl
theorem gS : Tryz.prog.globalNamed "strconv.ErrSyntax" = some 1 := by kernel_rfl
theorem star : "*" ++ "errors.errorString" = "*errors.errorString" := by decide
theorem rowErr (u : TypeId) (h : Tryz.prog.typeName? 3 u = some "*errors.errorString") : u = 257 :=
  typeName_ptr_named (nm := "errors.errorString") (by rw [star]; kernel_rfl) (by kernel_rfl) (by decide) u (by rw [star]; exact h)
theorem var_heap {W : World} {name : String} {g : Nat} {cs : Array Value} (hg : Tryz.prog.globalNamed name = some g) (h : W.var? Tryz.prog name = some cs) : ∃ T fz, W.heap[g]? = some (.cells cs T fz) := by
  unfold World.var? at h
  rw [hg] at h
  simp only [Option.bind_some] at h
  split at h
  · rename_i c T fz hh
    simp at h; subst h
    exact ⟨T, fz, hh⟩
  · simp at h
theorem var_of {w : World} {name : String} {g : Nat} {vs : List Value} {T : TypeId} (hg : Tryz.prog.globalNamed name = some g) (hs : w.shape? g = some (T, vs.length)) (hc : ∀ (i : Nat) (v : Value), vs[i]? = some v → w.cell? ⟨g, i, none⟩ = some v) : w.var? Tryz.prog name = some vs.toArray := by
  unfold World.shape? at hs
  unfold World.var?
  rw [hg]
  simp only [Option.bind_some]
  split at hs
  · rename_i c T' fz hh
    simp at hs
    rw [hh]
    simp only [Option.some.injEq]
    apply Array.ext
    · simpa using hs.2
    · intro i h1 h2
      have h3 := hc i vs[i] (by simp)
      simp only [World.cell?, hh] at h3
      simp [h1] at h3
      simpa using h3
  · simp at hs
def pows : List Value := Lib.pow10Tab.map fun z => Value.int .u64 z
def tabsOf (vR vS : Value) : List (Nat × Nat × Value) := (pows.mapIdx fun i v => (3, i, v)) ++ [(2, 0, vR), (1, 0, vS)]
def rowsOf' (a b c : TypeId) : List (Nat × TypeId × Nat) := [(3, a, 20), (2, b, 1), (1, c, 1)]
structure Held (W : World) (vR vS : Value) (a b c : TypeId) : Prop where
  cells : ∀ t ∈ tabsOf vR vS, W.cell? ⟨t.1, t.2.1, none⟩ = some t.2.2
  rows : ∀ r ∈ rowsOf' a b c, W.shape? r.1 = some r.2
theorem held {W : World} (h : laidMet Tryz.prog laid W) : ∃ tR pR tS pS a b c, Held W (.iface tR pR) (.iface tS pS) a b c := by
  have h1 : Lib.TabIs Tryz.prog W "internal/strconv.uint64pow10" .u64 Lib.pow10Tab :=
    Lib.tabIs_of_head gP (by kernel_rfl) (show Tryz.prog.underlying 253 = some (.array 20 233) by kernel_rfl) (show Tryz.prog.underlying 233 = some (.int .u64) by kernel_rfl) (by kernel_rfl) (by kernel_rfl) h.tail.tail
  obtain ⟨aR, sR, hR, -, -, -⟩ := laid_sentinel h.tail.tail.tail gR (by kernel_rfl) Tryz.underlying71 (show ∀ u, Tryz.prog.typeName? 3 u = some "*errors.errorString" → u = 257 from rowErr) Tryz.underlying257 Tryz.underlying259 rfl rfl Tryz.underlying9 (by kernel_rfl) (by kernel_rfl)
  obtain ⟨aS, sS, hS, -, -, -⟩ := laid_sentinel h.tail.tail.tail.tail gS (by kernel_rfl) Tryz.underlying71 (show ∀ u, Tryz.prog.typeName? 3 u = some "*errors.errorString" → u = 257 from rowErr) Tryz.underlying257 Tryz.underlying259 rfl rfl Tryz.underlying9 (by kernel_rfl) (by kernel_rfl)
  obtain ⟨a, fa, ha⟩ := var_heap gP h1
  obtain ⟨b, fb, hb⟩ := var_heap gR hR
  obtain ⟨c, fc, hc⟩ := var_heap gS hS
  refine ⟨257, .pointer (some aR), 257, .pointer (some aS), a, b, c, ⟨?_, ?_⟩⟩
  · intro t ht
    simp only [tabsOf, List.mem_append, List.mem_cons, List.not_mem_nil, or_false] at ht
    rcases ht with ht | rfl | rfl
    · obtain ⟨i, hi, rfl⟩ := List.mem_mapIdx.1 ht
      simp only [World.cell?, ha]
      have : (Lib.pow10Tab.map fun z => Value.int .u64 z) = pows := rfl
      rw [this]
      simp
    · simp only [World.cell?, hb]; rfl
    · simp only [World.cell?, hc]; rfl
  · intro r hr
    simp only [rowsOf', List.mem_cons, List.not_mem_nil, or_false] at hr
    rcases hr with rfl | rfl | rfl
    · simp only [World.shape?, ha]; rfl
    · simp only [World.shape?, hb]; rfl
    · simp only [World.shape?, hc]; rfl
theorem tab_pow {vR vS : Value} {a b c : TypeId} {e : Nat} {w : World} {fix : Nat → Nat → Prop} (h : Tab (N0 (tabsOf vR vS) (rowsOf' a b c) e) w fix) : Lib.TabIs Tryz.prog w "internal/strconv.uint64pow10" .u64 Lib.pow10Tab := by
  have hs : w.shape? 3 = some (a, pows.length) := h.2 (3, a, 20) (by show (3, a, 20) ∈ rowsOf' a b c; simp [rowsOf'])
  refine var_of gP hs ?_
  intro i v hv
  refine (h.1 (3, i, v) ?_).2
  show (3, i, v) ∈ tabsOf vR vS
  rw [tabsOf, List.mem_append]
  obtain ⟨hi, hv'⟩ := List.getElem?_eq_some_iff.1 (show pows[i]? = some v from hv)
  exact .inl (List.mem_mapIdx.2 ⟨i, hi, by rw [hv']⟩)
theorem tab_R {vR vS : Value} {a b c : TypeId} {e : Nat} {w : World} {fix : Nat → Nat → Prop} (h : Tab (N0 (tabsOf vR vS) (rowsOf' a b c) e) w fix) : w.var? Tryz.prog "strconv.ErrRange" = some #[vR] := by
  refine var_of (vs := [vR]) gR (h.2 (2, b, 1) (by show (2, b, 1) ∈ rowsOf' a b c; simp [rowsOf'])) ?_
  intro i v hv
  match i, hv with
  | 0, hv => simp at hv; subst hv; exact (h.1 (2, 0, vR) (by show (2, 0, vR) ∈ tabsOf vR vS; simp [tabsOf])).2
theorem tab_S {vR vS : Value} {a b c : TypeId} {e : Nat} {w : World} {fix : Nat → Nat → Prop} (h : Tab (N0 (tabsOf vR vS) (rowsOf' a b c) e) w fix) : w.var? Tryz.prog "strconv.ErrSyntax" = some #[vS] := by
  refine var_of (vs := [vS]) gS (h.2 (1, c, 1) (by show (1, c, 1) ∈ rowsOf' a b c; simp [rowsOf'])) ?_
  intro i v hv
  match i, hv with
  | 0, hv => simp at hv; subst hv; exact (h.1 (1, 0, vS) (by show (1, 0, vS) ∈ tabsOf vR vS; simp [tabsOf])).2
theorem lib {tR : TypeId} {pR : Value} {tS : TypeId} {pS : Value} {a b c : TypeId} : ∀ k pf, Ct.LX k = some pf → FnS E (N0 (tabsOf (.iface tR pR) (.iface tS pS)) (rowsOf' a b c) 225) k pf :=
  libOk _ _ _
    (h23 := bstr_ok (ρ := Tryz.lays169_ren) (by kernel_rfl) (by kernel_rfl) (by kernel_rfl) Tryz.lays169 Tryz.Builder_Extra_169)
    (h34 := wstr_ok (ρ := ren) (by kernel_rfl) (by kernel_rfl) (by kernel_rfl) w166 extra)
    (h35 := join_ok (ρ := Tryz.lays156_ren) (by kernel_rfl) Tryz.lays156 Tryz.Builder_Extra_156)
    (h47 := itoa_ok (ρ := Tryz.laysM171_ren) (by kernel_rfl) Tryz.laysM171 (fun _ _ h => tab_pow h))
    (h54 := atoi_ok (ρ := Tryz.laysC172_ren) (by kernel_rfl) (by kernel_rfl) Tryz.laysC172 (fun _ _ h => ⟨_, _, tab_S h⟩) (fun _ _ h => ⟨_, _, tab_R h⟩))
    (h59 := indexByte_ok (ρ := Tryz.lays217_ren) (by kernel_rfl) Tryz.lays217)
    (h303 := recOk303 _ _ _) (h305 := recOk305 _ _ _)
theorem all_map {α : Type} {f : α → PV} {G : α → Prop} {i : Nat} (hf : ∀ p, Sh D i p → ∃ x, p = f x ∧ G x) : ∀ es : List PV, (∀ x ∈ es, Sh D i x) → ∃ l : List α, es = l.map f ∧ ∀ x ∈ l, G x
  | [], _ => ⟨[], rfl, by simp⟩
  | x :: xs, h => by
    obtain ⟨y, rfl, hy⟩ := hf x (h x (List.mem_cons_self ..))
    obtain ⟨l, rfl, hl⟩ := all_map hf xs (fun y hy => h y (List.mem_cons_of_mem _ hy))
    refine ⟨y :: l, rfl, ?_⟩
    intro z hz
    rcases List.mem_cons.1 hz with rfl | hz
    · exact hy
    · exact hl z hz
theorem sh_str (p : PV) (h : Sh D 0 p) : ∃ s, p = .str s := by
  obtain ⟨s, rfl, _⟩ := Sh.inv_str (D := D) rfl h
  exact ⟨s, rfl⟩
theorem sh_names (p : PV) (h : Sh D 2 p) : ∃ l : List Str, p = .list false (l.map .str) ∧ l.length * 16 ≤ 140737488351232 := by
  obtain ⟨es, rfl, _, hl, hs⟩ := Sh.inv_slice (D := D) (e := 0) (b := 16) rfl h
  obtain ⟨l, rfl, _⟩ := all_map (G := fun _ => True) (fun q hq => by obtain ⟨s, rfl⟩ := sh_str q hq; exact ⟨s, rfl, trivial⟩) es hs
  exact ⟨l, rfl, by simpa using hl⟩
theorem sh_enum (p : PV) (h : Sh D 3 p) : ∃ x : Enum, p = eEnum x ∧ Len x.tags.length := by
  obtain ⟨ps, rfl, hq⟩ := Sh.inv_struct (D := D) (fs := [0, 2]) rfl h
  match ps, hq with
  | [a, b], ⟨ha, hb, _⟩ =>
    obtain ⟨s, rfl⟩ := sh_str a ha
    obtain ⟨l, rfl, hl⟩ := sh_names b hb
    exact ⟨⟨s, l⟩, rfl, by unfold Len; simp only; omega⟩
theorem sh_enums (p : PV) (h : Sh D 4 p) : ∃ en : List Enum, p = .list false (en.map eEnum) ∧ EOK en := by
  obtain ⟨es, rfl, _, hl, hs⟩ := Sh.inv_slice (D := D) (e := 3) (b := 40) rfl h
  obtain ⟨l, rfl, h1⟩ := all_map sh_enum es hs
  exact ⟨l, rfl, ⟨by simp at hl; omega, h1⟩⟩
theorem sh_int {p : PV} (h : Sh D 1 p) : ∃ n, p = .int .i64 n ∧ I64 n := by
  obtain ⟨n, rfl, h1, h2⟩ := Sh.inv_int (D := D) (k := .i64) rfl h
  exact ⟨n, rfl, h1, h2⟩
theorem sh_on (p : PV) (h : Sh D 5 p) : ∃ x : On, p = eOn x ∧ True := by
  obtain ⟨ps, rfl, hq⟩ := Sh.inv_struct (D := D) (fs := [0, 1, 1]) rfl h
  match ps, hq with
  | [a, b, c], ⟨ha, hb, hc, _⟩ =>
    obtain ⟨s, rfl⟩ := sh_str a ha
    obtain ⟨n, rfl, _⟩ := sh_int hb
    obtain ⟨m, rfl, _⟩ := sh_int hc
    exact ⟨⟨s, n, m⟩, rfl, trivial⟩
theorem sh_cell (p : PV) (h : Sh D 9 p) : ∃ x : Cell, p = eCell x ∧ I64 x.v := by
  obtain ⟨ps, rfl, hq⟩ := Sh.inv_struct (D := D) (fs := [1, 1]) rfl h
  match ps, hq with
  | [a, b], ⟨ha, hb, _⟩ =>
    obtain ⟨n, rfl, _⟩ := sh_int ha
    obtain ⟨m, rfl, hm⟩ := sh_int hb
    exact ⟨⟨n, m⟩, rfl, hm⟩
theorem sh_row (p : PV) (h : Sh D 10 p) : ∃ x : Row, p = eRow x ∧ (x.length * 16 ≤ 140737488351232 ∧ ∀ c ∈ x, I64 c.v) := by
  obtain ⟨es, rfl, _, hl, hs⟩ := Sh.inv_slice (D := D) (e := 9) (b := 16) rfl h
  obtain ⟨l, rfl, h1⟩ := all_map sh_cell es hs
  exact ⟨l, rfl, by simpa using hl, h1⟩
theorem sh_decl (p : PV) (h : Sh D 7 p) : ∃ x : Decl, p = eDecl x ∧ (x.clock.length * 32 ≤ 140737488351232 ∧ I64 x.type ∧ x.name.length ≤ 9223372036854775807) := by
  obtain ⟨ps, rfl, hq⟩ := Sh.inv_struct (D := D) (fs := [0, 1, 6]) rfl h
  match ps, hq with
  | [a, b, c], ⟨ha, hb, hc, _⟩ =>
    obtain ⟨s, rfl, hsl⟩ := Sh.inv_str (D := D) rfl ha
    obtain ⟨n, rfl, hn⟩ := sh_int hb
    obtain ⟨es, rfl, _, hl, hs⟩ := Sh.inv_slice (D := D) (e := 5) (b := 32) rfl hc
    obtain ⟨l, rfl, _⟩ := all_map sh_on es hs
    exact ⟨⟨s, n, l⟩, rfl, by simpa using hl, hn, hsl⟩
theorem sh_trace (p : PV) (h : Sh D 12 p) : ∃ x : Tr.Trace, p = eTrace x ∧ TrOK x ∧ Ct.Far x := by
  obtain ⟨ps, rfl, hq⟩ := Sh.inv_struct (D := D) (fs := [8, 11]) rfl h
  match ps, hq with
  | [a, b], ⟨ha, hb, _⟩ =>
    obtain ⟨es, rfl, _, hl, hs⟩ := Sh.inv_slice (D := D) (e := 7) (b := 48) rfl ha
    obtain ⟨l, rfl, h1⟩ := all_map sh_decl es hs
    obtain ⟨fs, rfl, _, kl, ks⟩ := Sh.inv_slice (D := D) (e := 10) (b := 24) rfl hb
    obtain ⟨k, rfl, h2⟩ := all_map sh_row fs ks
    simp at hl kl
    exact ⟨⟨l, k⟩, rfl, ⟨⟨by unfold Len; simp only; omega, fun d hd => (h1 d hd).2.1⟩, by unfold Len; simp only; omega, fun r hr => by have := (h2 r hr).1; unfold Len; omega, fun r hr => (h2 r hr).2⟩,
      ⟨hl, kl, fun d hd => (h1 d hd).1, fun d hd => (h1 d hd).2.2, fun r hr => (h2 r hr).1⟩⟩
theorem wts_mem {α : Type} (f : α → PV) {x : α} : ∀ {l : List α}, x ∈ l → wt (f x) ≤ wts (l.map f)
  | [], h => by simp at h
  | y :: l, h => by
    simp only [List.map_cons, wts]
    rcases List.mem_cons.1 h with rfl | h
    · omega
    · have := wts_mem f h; omega
theorem texts_of {en : List Enum} (h : wts (en.map eEnum) ≤ 1048576) : Ct.Texts en 1048576 := by
  refine ⟨?_, ?_⟩
  · intro u hu
    have h1 := wts_mem eEnum hu
    simp only [eEnum, wt, wts] at h1
    omega
  · intro u hu s hs
    have h1 := wts_mem eEnum hu
    have h2 := wts_mem PV.str hs
    simp only [eEnum, wt, wts] at h1 h2
    omega
mutual
theorem bulk {H : Type} : ∀ d : DataW H, Rows.uptoBulk d = dbulk d
  | .lit x => by cases x <;> rfl
  | .nil => rfl
  | .ptr d => by simp only [Rows.uptoBulk, dbulk, bulk d]
  | .slice es sp => by simp only [Rows.uptoBulk, dbulk, bulkAll es, bulkAll sp]
  | .agg ps => by simp only [Rows.uptoBulk, dbulk, bulkAll ps]
  | .iface _ d => by simp only [Rows.uptoBulk, dbulk, bulk d]
  | .map es => by simp only [Rows.uptoBulk, dbulk, bulkEntries es]
  | .held _ => rfl
theorem bulkAll {H : Type} : ∀ ds : List (DataW H), Rows.uptoBulkAll ds = dbulkAll ds
  | [] => rfl
  | d :: r => by simp only [Rows.uptoBulkAll, dbulkAll, bulk d, bulkAll r]
theorem bulkEntries {H : Type} : ∀ ds : List (Lit × DataW H), Rows.uptoBulkEntries ds = dbulkEntries ds
  | [] => rfl
  | x :: r => by simp only [Rows.uptoBulkEntries, dbulkEntries, bulkEntry x, bulkEntries r]
theorem bulkEntry {H : Type} : ∀ x : Lit × DataW H, Rows.uptoBulkEntry x = dbulkEntry x
  | (l, d) => by cases l <;> simp only [Rows.uptoBulkEntry, dbulkEntry, bulk d]
end
theorem small_of {H : Type} {ds : List (DataW H)} {pvs : List PV} (hk : Rows.uptoSmall H ds = true) (h : wts pvs ≤ dbulkAll ds) : wts pvs ≤ 1048576 := by
  have : Rows.uptoBulkAll ds ≤ 1048576 := of_decide_eq_true hk
  rw [bulkAll] at this
  omega
theorem runCompareTexts (pvs : List PV) (h : ShAll D [4, 12] pvs) (hw : wts pvs ≤ 1048576) : ∃ m h', call Ct.LX m 300 pvs [] = some (.bool true, h') := by
  match pvs, h with
  | [p, q], h =>
    obtain ⟨en, rfl, hen⟩ := sh_enums p h.1
    obtain ⟨t, rfl, h1, h2⟩ := sh_trace q h.2.1
    simp only [wts, wt] at hw
    have hl : Len en.length := by have := hen.len; unfold Len; omega
    obtain ⟨m, hm⟩ := callL_iff.1 (Ct.law_texts en hen hl hen.tags t h1 h2 (fun hc => Ct.body_lenB (texts_of (by omega)) hc) false [])
    exact ⟨m, [], hm⟩
theorem idxCompareTexts : ∀ i ∈ ([4, 12] : List Nat), i < 13 ∧ Tryz.prog.readableRec (tm i) = true ∧ tm i < Tryz.prog.types.size := fun i hi => types' i (by simp at hi; omega)
theorem laid_met (os : Os) (args : Array Value) : laidMetH Tryz.prog laid ((World.laidAll Tryz.prog os laid).forCall (fun _ _ => 0) ⟨#[], args, []⟩).memory :=
  laid_to (laidMet_laidAll args (by kernel_rfl) (by kernel_rfl))
theorem liftedCompareTexts (os : Os) (started : os.Started) (H : Type) (enc : TypeId × Value → H) (F : Stop.Interp) :
    ReturnsInHanded {} Tryz.checked os 5 .any ((Rows.OpenSpec.upto Rows.compareTextsSpec).preRow enc Tryz.prog Tryz.f5 [] false laid) (((Rows.OpenSpec.upto Rows.compareTextsSpec).at F).post enc Tryz.prog Tryz.f5 false true false false) := by
  refine returnsInHanded_of_row (C := Tryz.checked) (s := Rows.OpenSpec.upto Rows.compareTextsSpec) own started (by kernel_rfl) Tryz.func5
    (witness_row_at (enc := enc) (C := Tryz.checked) (os := os) (s := Rows.OpenSpec.upto Rows.compareTextsSpec) false (World.laidAll Tryz.prog os laid) #[.slice none 0 0, .agg #[.slice none 0 0, .slice none 0 0]] (World.laidAll_os _ _ _) (by kernel_rfl) (by kernel_rfl) (by kernel_rfl)
      ⟨⟨(OpenSpec.pre_some (k := Rows.uptoSmall) rfl [] false _ _).2 ⟨[.nil, .agg [.nil, .nil]], [], [], (DataW.Whole_of_whole (fuel := 8) (x := (([.nil, .agg [.nil, .nil]] : List (DataW H)), ([] : List (DataW H)), ([] : List MemPlace))) (by kernel_rfl)), rfl, by kernel_rfl⟩, laid_met os _⟩, sizedMet_of_sizedB (s := Rows.compareTextsSpec) (fuel := 8) (by kernel_rfl)⟩) ?_
  intro W base args ds gs before hval hW _ hk hwg hL _ _
  obtain ⟨tR, pR, tS, pS, a, b, c, hh⟩ := held (laid_of hL)
  exact pi_contract (s := Rows.compareTextsSpec) (base' := base) (N := N0 (tabsOf (.iface tR pR) (.iface tS pS)) (rowsOf' a b c) 225) (D := D) (tm := tm) (n := 13) (k := 300) (idxs := [4, 12]) (tb := 4) (envOk _ _ _) rfl mixed lib hh.cells hh.rows matches' laidOut (by kernel_rfl) idxCompareTexts rfl Tryz.underlying4 (by kernel_rfl)
    (fun ds hl => by match ds, hl with | [_, _], _ => rfl) hval hW hwg (fun pvs h hw => runCompareTexts pvs h (small_of (hk _ rfl) hw))
theorem compareTexts_holds : Rows.CompareTextsUptoSaid :=
  OpenClaim.holds_of_cond 5 Tryz.f5 rfl rfl rfl rfl rfl rfl rfl ⟨rfl, rfl, rfl, rfl, rfl⟩ rfl rfl rfl rfl rfl (by kernel_rfl) Tryz.func5 (by kernel_rfl)
    (of_decide_eq_true (by kernel_rfl)) (by unfold Func.isWrapper; first | (rw [if_pos (by decide +kernel)]; kernel_rfl) | (rw [if_neg (by decide +kernel)]; exact ⟨rfl, rfl⟩))
    (fun os started H enc _ F => by rw [OpenClaim.pre_eq_preRow]; exact liftedCompareTexts os started H enc F)
theorem compareTexts_card : Rows.CompareTextsUptoCardSaid :=
  Claim7.holds_tied_plain_at .later [] [.data, .data, .data, .sentinel, .sentinel] true (true, "f893bf4a153e4e11d9a52204d9ae61a4839158554ec189b89ba7cdc92eb96efe") true
    compareTexts_holds (fun _ h => by cases h) (by kernel_rfl) (fun _ h => by cases h) compareTextsUpto_row_tie rfl ⟨rfl, rfl⟩ (by kernel_rfl) rfl
    (fun f fn hf hfn => by
      obtain rfl : f = 5 := Option.some.inj ((show Tryz.prog.funcNamed "synchrony/synchronylaw44.CompareTexts" = some 5 by kernel_rfl).symm.trans hf) |>.symm
      obtain rfl : fn = Tryz.f5 := (Option.some.inj (Tryz.func5.symm.trans hfn)).symm
      exact ⟨by kernel_rfl, fun j t ht => by
        have hp : Tryz.f5.params = #[22, 26] := by kernel_rfl
        rw [hp] at ht
        have h3 : t = 22 ∨ t = 26 := by
          rcases j with _ | _ | j
          · left; simpa using ht.symm
          · right; simpa using ht.symm
          · simp at ht
        rcases h3 with rfl | rfl
        · exact (show Tryz.prog.wantsStandIn 22 = false by kernel_rfl)
        · exact (show Tryz.prog.wantsStandIn 26 = false by kernel_rfl)⟩)
    (by kernel_rfl)
#print axioms compareTexts_card
end Go.Proofs.YtegahghjancjpaaGreatDoor.Pi
