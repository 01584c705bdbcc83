/-
  What the functions of traces come to: Text.
-/
import Derived.Test.YtegahghjancjpaaDoorPiTrRun9
set_option maxRecDepth 100000
set_option linter.unusedSimpArgs false
set_option linter.unusedVariables false
namespace PI.Tr
open Go (IntKind BinOp UnOp)

def lineText (l : List Str) : Str := Go.Lib.join l [32] ++ [10]
def typeNames (en : List Enum) (cols : List Decl) : List Str := cols.map fun d => (tyName en d.type).getD []
def rowWords (en : List Enum) (cols : List Decl) (r : Row) (n : Nat) : List Str := (List.range n).map fun i => cellWord en (cols.getD i default).type (r.getD i default)
theorem rowWords_succ (en : List Enum) (cols : List Decl) (r : Row) (n : Nat) : rowWords en cols r (n + 1) = rowWords en cols r n ++ [cellWord en (cols.getD n default).type (r.getD n default)] := by simp [rowWords, List.range_succ]
@[simp] theorem rowWords_len (en : List Enum) (cols : List Decl) (r : Row) (n : Nat) : (rowWords en cols r n).length = n := by simp [rowWords]
theorem typeNames_succ (en : List Enum) {l : List Decl} {i : Nat} (h : i < l.length) : typeNames en (l.take (i + 1)) = typeNames en (l.take i) ++ [(tyName en l[i].type).getD []] := by rw [take_succ' h]; simp only [typeNames, List.map_append, List.map_cons, List.map_nil]
@[simp] theorem typeNames_len (en : List Enum) (l : List Decl) : (typeNames en l).length = l.length := by simp [typeNames]
@[simp] theorem names_len (l : List Decl) : (names l).length = l.length := by simp [names]

/-- The text of a trace that is valid. -/
def bodyText (en : List Enum) (t : Trace) : Str :=
  lineText (names t.cols) ++ lineText (typeNames en t.cols) ++ (t.rows.map fun r => lineText (rowWords en t.cols r r.length)).flatten
def textOf (en : List Enum) (t : Trace) : Str × Int := if checkErr en t = 0 then (bodyText en t, 0) else ([], checkErr en t)

theorem strsOf_map (l : List Str) : strsOf (l.map PV.str) = some l := by induction l <;> simp_all [strsOf]

section
variable {L : Nat → Option PFunc} (hL : ∀ k f, Lc k = some f → L k = some f)
include hL

theorem strings_join (l : List Str) (sep : Str) (o : Bool) (h : List PObj) (h1 : l.length ≤ 140737488355328) (h2 : (Go.Lib.join l sep).length ≤ 140737488355328) : callL L 35 [.list o (l.map .str), .str sep] h = some (.str (Go.Lib.join l sep), h) := by
  rw [callL_prim (hL 35 _ rfl) rfl rfl]
  simp [pJoin, strsOf_map, h1, h2]

theorem write_string (n : Nat) (bs s : Str) (h : List PObj) (hn : h[n]? = some (.bld bs)) (hb : bs.length + s.length ≤ 140737488355328) : callL L 34 [.ptr n 0, .str s] h = some (.tuple [.int .i64 s.length, .nilIface], h.set n (.bld (bs ++ s))) := by
  rw [callL_prim (hL 34 _ rfl) rfl rfl]
  simp [pWriteString, hn, hb]

theorem b_string (n : Nat) (bs : Str) (h : List PObj) (hn : h[n]? = some (.bld bs)) : callL L 23 [.ptr n 0] h = some (.str bs, h.set n .gone) := by
  rw [callL_prim (hL 23 _ rfl) rfl rfl]
  simp [pBString, hn]

theorem text_line (l : List Str) (n : Nat) (bs : Str) (o : Bool) (h : List PObj) (hn : h[n]? = some (.bld bs)) (h1 : l.length ≤ 140737488355328) (hb : bs.length + (lineText l).length ≤ 2147483648) :
    callL L 21 [.list o (l.map .str), .ptr n 0] h = some (.tuple [], h.set n (.bld (bs ++ lineText l))) := by
  have hj : (Go.Lib.join l [32]).length + 1 = (lineText l).length := by simp [lineText]
  have hc := strings_join hL l [32] false [] h1 (by omega)
  have hw := write_string hL n bs (lineText l) h hn (by omega)
  have hj2 : (Go.Lib.join l [32]).length ≤ 2147483647 := by omega
  refine callL_wp (hL 21 _ rfl) rfl ?_
  have he : Go.Lib.join l [32] ++ [10] = lineText l := rfl
  simp [f_trace_Text_1, hc, he, hw, hj2]

theorem text_row (en : List Enum) (cols : List Decl) (hok : ColsOK cols) (row : Row) (hlen : row.length = cols.length) (hl2 : row.length ≤ 2147483647) (hcell : ∀ c ∈ row, I64 c.v) (R : PV) (g : Nat) (h : List PObj) (x5 x6 x7 x8 x9 x10 x11 x14 x15 x16 x17 x18 x19 x20 x21 p1 : PV) {Q : PExit → St → Prop}
    (h0 : ∀ y14 y15 y24 g', Q (.exit 4) ⟨[.list false (en.map eEnum), p1, .loc 0 [.list false (cols.map eDecl), R], .str [], .int .i64 0, x5, x6, x7, x8, x9, x10, x11, .list false (row.map eCell), .list true ((rowWords en cols row row.length).map .str), y14, y15, x16, x17, x18, x19, x20, x21, .list false (row.map eCell), .int .i64 row.length, y24], [], g', h⟩) :
    wpL L f_trace_Text_l1 ⟨[.list false (en.map eEnum), p1, .loc 0 [.list false (cols.map eDecl), R], .str [], .int .i64 0, x5, x6, x7, x8, x9, x10, x11, .list false (row.map eCell), .list true [], x14, x15, x16, x17, x18, x19, x20, x21, .list false (row.map eCell), .int .i64 row.length, .int .i64 0], [], g, h⟩ Q := by
  refine loop_updG row.length (fun _ => true) (fun i (x : (PV × PV) × Nat) => [(13, .list true ((rowWords en cols row i).map .str)), (14, x.1.1), (15, x.1.2), (24, .int .i64 i)]) (fun _ x => x.2) (fun _ _ => h) ((x14, x15), g) ?_ ?_ ?_ rfl rfl rfl
  · intro i hi _ x ih
    have hw := wrap_succ i (by omega)
    have hi' : i < cols.length := by omega
    have hb : i ≤ 2147483647 := by omega
    have hc := trace_word hL en cols[i].type row[i] (hok.at hi') (hcell _ (List.getElem_mem hi)) false []
    have hs := rowWords_succ en cols row i
    simp only [List.getD, List.getElem?_eq_getElem hi, List.getElem?_eq_getElem hi', Option.getD_some] at hs
    simp [hi, hi', hc, hw, hb]
    simpa [hs] using ih ((_, _), _)
  · intro i hi hz; simp at hz
  · intro _ x
    simp
    exact h0 _ _ _ _

theorem trace_text (en : List Enum) (t : Trace) (hok : TrOK t) (hb : (bodyText en t).length ≤ 2147483648) (o : Bool) (h : List PObj) : ∃ h', callL L 6 [.list o (en.map eEnum), eTrace t] h = some (.tuple [.str (textOf en t).1, .int .i64 (textOf en t).2], h') := by
  suffices H : ∃ r, callL L 6 [.list o (en.map eEnum), eTrace t] h = some r ∧ r.1 = .tuple [.str (textOf en t).1, .int .i64 (textOf en t).2] by
    obtain ⟨⟨v, h'⟩, h1, h2⟩ := H
    exact ⟨h', by rw [h1]; simp at h2; rw [h2]⟩
  refine callL_wpP (hL 6 _ rfl) rfl ?_
  obtain ⟨h', hck⟩ := trace_check hL en t hok false []
  by_cases hc : checkErr en t = 0
  · have htx : textOf en t = (bodyText en t, 0) := if_pos hc
    rw [htx]
    have hcl : t.cols.length ≤ 384 ∧ t.rows.length ≤ 4096 ∧ ∀ r ∈ t.rows, r.length = t.cols.length := by
      unfold checkErr at hc
      split at hc
      · simp at hc
      · rename_i h1
        split at hc
        · rename_i h2; exact absurd hc h2
        · refine ⟨by omega, by omega, ?_⟩
          intro r hr
          obtain ⟨k, hk, rfl⟩ := List.mem_iff_getElem.1 hr
          have := firstErr_zero hc k hk
          simp only [List.getD, List.getElem?_eq_getElem hk, Option.getD_some] at this
          unfold rowErr at this
          split at this
          · simp at this
          · rename_i h3; simpa using h3
    obtain ⟨hc1, hc2, hc3⟩ := hcl
    simp [f_trace_Text, hck, hc]
    refine loop_updG t.cols.length (fun _ => true) (fun i (x : (PV × PV) × Nat) => [(6, .list true ((names (t.cols.take i)).map .str)), (7, .list true ((typeNames en (t.cols.take i)).map .str)), (8, x.1.1), (9, x.1.2), (18, .int .i64 i)]) (fun _ x => x.2) (fun _ _ => h) ((.dead, .dead), 1) ?_ ?_ ?_ rfl rfl rfl
    · intro i hi _ x ih
      have hw := wrap_succ i (by omega)
      have hn := value_name hL en t.cols[i].type (hok.cols.at hi) false []
      have hb : i ≤ 2147483647 := by omega
      have hmin : min i t.cols.length = i := by omega
      have hs1 := names_succ hi
      have hs2 := typeNames_succ en hi
      simp [hi, hn, hw, hb, hmin]
      simpa [hs1, hs2] using ih ((_, _), _)
    · intro i hi hz; simp at hz
    · intro _ x
      have hline : ∀ (l : List Str) (bs : Str), l.length ≤ 140737488355328 → bs.length + (lineText l).length ≤ 2147483648 → callL L 21 [.list false (l.map .str), .ptr h.length 0] (h ++ [.bld bs]) = some (.tuple [], h ++ [.bld (bs ++ lineText l)]) := by
        intro l bs h1 h2
        have := text_line hL l h.length bs false (h ++ [PObj.bld bs]) (by simp) h1 h2
        rw [this]; simp
      unfold bodyText at hb
      simp only [List.length_append] at hb
      have hl1 := hline (names t.cols) [] (by simp; omega) (by simp; omega)
      have hl2 := hline (typeNames en t.cols) (lineText (names t.cols)) (by simp; omega) (by omega)
      simp only [List.nil_append] at hl1
      obtain ⟨lns, hlns⟩ : ∃ lns, lns = t.rows.map fun r => lineText (rowWords en t.cols r r.length) := ⟨_, rfl⟩
      have hbt : bodyText en t = lineText (names t.cols) ++ lineText (typeNames en t.cols) ++ lns.flatten := by rw [hlns]; rfl
      rw [← hlns] at hb
      have hll : lns.length = t.rows.length := by rw [hlns]; simp
      have hlr : ∀ r (hr : r < t.rows.length), lns[r]? = some (lineText (rowWords en t.cols t.rows[r] t.rows[r].length)) := by
        intro r hr; rw [hlns]; simp [hr]
      have hpre : ∀ k, (lns.take k).flatten.length ≤ lns.flatten.length := by
        intro k
        conv => rhs; rw [← List.take_append_drop k lns]
        simp only [List.flatten_append, List.length_append]
        omega
      generalize hX : lineText (names t.cols) ++ lineText (typeNames en t.cols) = X at *
      have hXl : X.length = (lineText (names t.cols)).length + (lineText (typeNames en t.cols)).length := by rw [← hX]; simp
      simp [hl1, hl2, hX]
      refine loop_updG t.rows.length (fun _ => true) (fun r (x : (PV × PV × PV × PV) × (PV × PV × PV) × Nat) => [(12, x.1.1), (13, x.1.2.1), (14, x.1.2.2.1), (15, x.1.2.2.2), (21, .int .i64 r), (22, x.2.1.1), (23, x.2.1.2.1), (24, x.2.1.2.2)]) (fun _ x => x.2.2) (fun r _ => h ++ [.bld (X ++ (lns.take r).flatten)]) ((.dead, .dead, .dead, .dead), (.dead, .dead, .dead), x.2) ?_ ?_ ?_ rfl rfl (by simp)
      · intro r hr _ x ih
        have hw := wrap_succ r (by omega)
        have hr3 := hc3 _ (List.getElem_mem hr)
        have hlr' := hlr r hr
        have hts : lns.take (r + 1) = lns.take r ++ [lineText (rowWords en t.cols t.rows[r] t.rows[r].length)] := by
          rw [take_succ' (by omega)]
          rw [List.getElem?_eq_getElem (by omega)] at hlr'
          simp at hlr'; rw [hlr']
        simp [hr, eRow]
        refine text_row hL en t.cols hok.cols t.rows[r] hr3 (by omega) (hok.cell _ (List.getElem_mem hr)) _ _ _ _ _ _ _ _ _ _ _ _ _ _ _ _ _ _ _ ?_
        intro y14 y15 y24 g'
        have hp := hpre (r + 1)
        rw [hts] at hp
        simp only [List.flatten_append, List.length_append, List.flatten_cons, List.flatten_nil, List.append_nil] at hp
        have hl3 := hline (rowWords en t.cols t.rows[r] t.rows[r].length) (X ++ (lns.take r).flatten) (by simp; omega) (by simp only [List.length_append]; omega)
        simp [-List.append_assoc, hl3, hw]
        have := ih ((PV.list false (t.rows[r].map eCell), PV.list true ((rowWords en t.cols t.rows[r] t.rows[r].length).map .str), y14, y15), (PV.list false (t.rows[r].map eCell), .int .i64 t.rows[r].length, y24), g')
        rw [hts] at this
        simpa using this
      · intro i hi hz; simp at hz
      · intro _ x
        have hst' := b_string hL h.length (X ++ lns.flatten) (h ++ [PObj.bld (X ++ lns.flatten)]) (by simp)
        have htk : lns.take t.rows.length = lns := by rw [← hll]; simp
        rw [hbt]
        simp [hst', endP, htk]
  · have htx : textOf en t = ([], checkErr en t) := if_neg hc
    rw [htx]
    generalize checkErr en t = e at *
    simp [f_trace_Text, hck, hc, endP]
end
end PI.Tr
