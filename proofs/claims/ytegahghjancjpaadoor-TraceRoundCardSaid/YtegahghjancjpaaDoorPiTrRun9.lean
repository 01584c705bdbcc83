/-
  What the functions of traces come to: Parse.
-/
import Derived.Test.YtegahghjancjpaaDoorPiTrRun8
set_option maxRecDepth 100000
set_option linter.unusedSimpArgs false
set_option linter.unusedVariables false
namespace PI.Tr
open Go (IntKind BinOp UnOp)

def noTrace : Trace := ⟨[], []⟩
/-- What the lines that are left give: the trace, the line of the error, the error. -/
def parseL (en : List Enum) : List Str → Nat → List Decl → List Row → Trace × Nat × Int
  | [], n, _, _ => (noTrace, n, 4)
  | [s], n, cols, rows => if s = [] ∧ 2 < n then (⟨cols, rows⟩, 0, 0) else (noTrace, n, 4)
  | w :: r, n, cols, rows =>
    if n = 1 then (if namesErr (wordsOf w) = 0 then parseL en r 2 ((wordsOf w).map nameCol) rows else (noTrace, 1, namesErr (wordsOf w)))
    else if n = 2 then (if typesErr en (wordsOf w) cols = 0 then parseL en r 3 (typed en (wordsOf w) cols (wordsOf w).length) rows else (noTrace, 2, typesErr en (wordsOf w) cols))
    else if lineErr en cols rows (wordsOf w) = 0 then parseL en r (n + 1) cols (rows ++ [lineCells en cols (wordsOf w) (wordsOf w).length]) else (noTrace, n, lineErr en cols rows (wordsOf w))

def parse (en : List Enum) (s : Str) : Trace × Nat × Int := parseL en (split 10 s) 1 [] []

theorem typeOf_I64 {en : List Enum} (hen : EOK en) {s : Str} {t : Int} (h : typeOf en s = some t) : I64 t := by
  unfold typeOf at h
  split at h
  · simp at h; subst h; exact ⟨by decide, by decide⟩
  · split at h
    · simp at h; subst h; exact ⟨by decide, by decide⟩
    · cases hf : en.findIdx? (fun u => decide (u.name = s)) with
      | none => rw [hf] at h; simp at h
      | some i =>
        rw [hf] at h
        simp at h
        subst h
        have := (List.findIdx?_eq_some_iff_getElem.1 hf).1
        have := hen.len
        exact ⟨by omega, by omega⟩

theorem typed_I64 {en : List Enum} (hen : EOK en) (l : List Str) {cols : List Decl} (h : ∀ d ∈ cols, I64 d.type) : ∀ i, ∀ d ∈ typed en l cols i, I64 d.type
  | 0 => h
  | i + 1 => by
    intro d hd
    obtain ⟨k, hk, rfl⟩ := List.mem_iff_getElem.1 hd
    simp only [typed, List.getElem_modify]
    split
    · show I64 ((typeOf en (l.getD i [])).getD 0)
      cases ht : typeOf en (l.getD i []) with
      | none => exact ⟨by decide, by decide⟩
      | some t => exact typeOf_I64 hen ht
    · exact typed_I64 hen l h i _ (List.getElem_mem _)

theorem wordsOf_len (s : Str) : (wordsOf s).length ≤ s.length + 1 := by
  unfold wordsOf
  split
  · simp
  · rw [split_eq]; simp; exact pcs_len 32 s s.length
theorem split_mem (c : UInt8) : ∀ (s : Str), ∀ w ∈ split c s, w.length ≤ s.length
  | [], w, h => by simp [split] at h; subst h; simp
  | b :: r, w, h => by
    simp only [split] at h
    split at h
    · rcases List.mem_cons.1 h with rfl | h
      · simp
      · have := split_mem c r w h; simp; omega
    · have hr := split_mem c r
      cases hs : split c r with
      | nil => exact absurd hs (split_ne c r)
      | cons x xs =>
        rw [hs] at h hr
        rcases List.mem_cons.1 h with rfl | h
        · have := hr x (List.mem_cons_self ..); simp; omega
        · have := hr w (List.mem_cons_of_mem _ h); simp; omega
theorem wordsOf_mem {s w : Str} (h : w ∈ wordsOf s) : w.length ≤ s.length := by
  unfold wordsOf at h
  split at h
  · simp at h
  · exact split_mem 32 s w h
theorem split_len (c : UInt8) (s : Str) : (split c s).length ≤ s.length + 1 := by
  rw [split_eq]; simp; exact pcs_len c s s.length

section
variable {L : Nat → Option PFunc} (hL : ∀ k f, Lc k = some f → L k = some f)
include hL

theorem parse_loop (en : List Enum) (hen : EOK en) (p : Nat) (v0 : PV) (res : Trace × Nat × Int) : ∀ (d : Nat) (s : Str), s.length = d → ∀ (n : Nat) (cols : List Decl) (rows : List Row) (h : List PObj) (x7 x8 x9 x10 x11 x13 : PV),
    s.length + n ≤ 2147483000 → 1 ≤ n → (n = 1 → cols = []) → cols.length ≤ 384 → (∀ d ∈ cols, I64 d.type) → rows.length ≤ 4096 → PS p en cols (.list true (rows.map eRow)) h → parseL en (split 10 s) n cols rows = res →
    wpL L f_trace_Parse_l0 ⟨[v0, .str s, .loc 0 [.list true [], .list true []], .int .i64 0, .int .i64 0, .ptr p 0, .int .i64 n, x7, x8, x9, x10, x11, .ptr p 0, x13], [], 1, h⟩
      (blockK 0 (endP [.cell 2 2 true, .var 3, .var 4] fun r => r.1 = .tuple [eTrace res.1, .int .i64 res.2.1, .int .i64 res.2.2])) := by
  intro d
  induction d using Nat.strongRecOn with
  | _ d ih =>
    intro s hsd n cols rows h x7 x8 x9 x10 x11 x13 hsn hn1 hc1 hcl hct hrl hps hres
    unfold f_trace_Parse_l0
    rw [wpL_loop]
    have hw := wrap_succ n (by omega)
    obtain ⟨C, hpn, hC⟩ := hps
    rcases cut_cases 10 s with hno | ⟨a, r, hs, ha⟩
    · have hcut := cut_no hL s hno []
      rw [split_no 10 s hno] at hres
      simp only [parseL] at hres
      have hz : eTrace noTrace = .agg [.list false [], .list false []] := rfl
      by_cases h1 : s = []
      · subst h1
        by_cases h2 : 2 < n
        · have h2' : (2 : Int) < n := by omega
          rw [if_pos ⟨rfl, h2⟩] at hres
          subst hres
          have hfe := flat_rowEls cols []
          simp only [List.nil_append, List.length_nil] at hfe
          have het : eTrace ⟨cols, rows⟩ = .agg [.list false (cols.map eDecl), .list false (rows.map eRow)] := rfl
          rw [het]
          rcases hC with ⟨rfl, rfl⟩ | ⟨m, hmn, rfl, hm2⟩
          · simp [hcut, h2', hpn, endP]
          · simp [hcut, h2', hpn, endP, hm2, hfe]
        · have h2' : ¬ (2 : Int) < n := by omega
          rw [if_neg (fun h => h2 h.2)] at hres
          subst hres
          simp [hcut, h2', endP, hz]
      · rw [if_neg (fun h => h1 h.1)] at hres
        subst hres
        simp [hcut, h1, endP, hz]
    · have hz : eTrace noTrace = .agg [.list false [], .list false []] := rfl
      have hlen : a.length + r.length + 1 = s.length := by rw [hs]; simp; omega
      have hcut := cut_at hL a r ha (by unfold Len; omega) []
      rw [← hs] at hcut
      have hsp : split 10 s = a :: split 10 r := by rw [hs]; exact split_cut 10 a r ha
      obtain ⟨b, rest, hbr⟩ : ∃ b rest, split 10 r = b :: rest := by
        cases hx : split 10 r with
        | nil => exact absurd hx (split_ne 10 r)
        | cons b rest => exact ⟨b, rest, rfl⟩
      rw [hsp, hbr] at hres
      simp only [parseL] at hres
      rw [← hbr] at hres
      obtain ⟨hw', hwords⟩ := trace_words hL a (by omega) []
      have hwl := wordsOf_len a
      have hwm : ∀ w ∈ wordsOf a, w.length ≤ 281474976710656 := fun w h => by have := wordsOf_mem h; omega
      have hnext := ih r.length (by omega) r rfl (n + 1)
      by_cases n1 : n = 1
      · subst n1
        have := hc1 rfl
        subst this
        rw [if_pos rfl] at hres
        obtain ⟨h2, hcall, hps2⟩ := parser_names hL p en (wordsOf a) (.list true (rows.map eRow)) false h ⟨C, hpn, hC⟩
        by_cases he : namesErr (wordsOf a) = 0
        · rw [if_pos he] at hres
          have hwl2 : (wordsOf a).length ≤ 384 := by
            unfold namesErr at he
            split at he
            · simp at he
            · omega
          simp [hcut, hwords, hcall, he]
          refine hnext _ rows h2 _ _ _ _ _ _ (by omega) (by omega) (by omega) (by simpa using hwl2) ?_ hrl (hps2 he) hres
          intro d hd
          simp at hd
          obtain ⟨w, _, rfl⟩ := hd
          show I64 0
          exact ⟨by decide, by decide⟩
        · rw [if_neg he] at hres
          subst hres
          simp [hcut, hwords, hcall, he, endP, hz]
      · rw [if_neg n1] at hres
        by_cases n2 : n = 2
        · subst n2
          rw [if_pos rfl] at hres
          obtain ⟨h2, hcall, hps2⟩ := parser_types hL p en hen (wordsOf a) cols hcl (.list true (rows.map eRow)) false h ⟨C, hpn, hC⟩
          by_cases he : typesErr en (wordsOf a) cols = 0
          · rw [if_pos he] at hres
            simp [hcut, hwords, hcall, he]
            exact hnext _ rows h2 _ _ _ _ _ _ (by omega) (by omega) (by omega) (by simpa using hcl) (typed_I64 hen _ hct _) hrl (hps2 he) hres
          · rw [if_neg he] at hres
            subst hres
            simp [hcut, hwords, hcall, he, endP, hz]
        · rw [if_neg n2] at hres
          have n1' : ¬ (n : Int) = 1 := by omega
          have n2' : ¬ (n : Int) = 2 := by omega
          obtain ⟨h2, hcall, hps2⟩ := parser_row hL p en hen (wordsOf a) hwm cols hct hcl rows hrl false h ⟨C, hpn, hC⟩
          by_cases he : lineErr en cols rows (wordsOf a) = 0
          · rw [if_pos he] at hres
            have hrl2 : rows.length + 1 ≤ 4096 := by
              unfold lineErr at he
              split at he
              · simp at he
              · omega
            simp [hcut, hwords, n1, n2, n1', n2', hcall, he, hw]
            exact hnext cols _ h2 _ _ _ _ _ _ (by omega) (by omega) (by omega) hcl hct (by simpa using hrl2) (hps2 he) hres
          · rw [if_neg he] at hres
            subst hres
            simp [hcut, hwords, n1, n2, n1', n2', hcall, he, endP, hz]

theorem trace_parse (en : List Enum) (hen : EOK en) (s : Str) (hs : s.length ≤ 2147482000) (o : Bool) (h : List PObj) :
    ∃ h', callL L 8 [.list o (en.map eEnum), .str s] h = some (.tuple [eTrace (parse en s).1, .int .i64 (parse en s).2.1, .int .i64 (parse en s).2.2], h') := by
  suffices H : ∃ r, callL L 8 [.list o (en.map eEnum), .str s] h = some r ∧ r.1 = .tuple [eTrace (parse en s).1, .int .i64 (parse en s).2.1, .int .i64 (parse en s).2.2] by
    obtain ⟨⟨v, h'⟩, h1, h2⟩ := H
    exact ⟨h', by rw [h1]; simp at h2; rw [h2]⟩
  refine callL_wpP (hL 8 _ rfl) rfl ?_
  have go := fun x7 x8 x9 x10 x11 x13 => parse_loop hL en hen h.length (.list false (en.map eEnum)) (parse en s) s.length s rfl 1 [] [] (h ++ [.cells [.list false (en.map eEnum), .list true [], .list true []]]) x7 x8 x9 x10 x11 x13 (by omega) (by omega) (fun _ => rfl) (by simp) (by simp) (by simp) ⟨.list true [], by simp, .inl ⟨rfl, rfl⟩⟩ rfl
  generalize parse en s = res at go ⊢
  simp [f_trace_Parse]
  exact go _ _ _ _ _ _
end
end PI.Tr
