/-
  Lemmas to run operations on the shared heap by simp.
-/
import Derived.Test.YtaejhojielbbdaaGreatDoorPiSimp
set_option linter.unusedVariables false
set_option linter.unusedSimpArgs false
set_option linter.unusedSectionVars false
namespace PI
open Go (IntKind BinOp UnOp)
section
variable {cf : CallF} {V l : List PV} {g : Nat} {h : List PObj} {L : Nat → Option PFunc}
@[simp] theorem hget_mk (n : Nat) : hget ⟨V, l, g, h⟩ n = match h[n]? with | some (.cells cs) => some cs | _ => none := rfl
@[simp] theorem mget_none : mget ⟨V, l, g, h⟩ none = some [] := rfl
@[simp] theorem mget_some (n : Nat) : mget ⟨V, l, g, h⟩ (some n) = match h[n]? with | some (.map es) => some es | _ => none := rfl
@[simp] theorem hset_mk (n : Nat) (o : PObj) : hset ⟨V, l, g, h⟩ n o = ⟨V, l, g, h.set n o⟩ := rfl
@[simp] theorem capt_v (i : Nat) : capt ⟨V, l, g, h⟩ (.v i) = match V[i]? with
  | some (.loc _ cs) => some (.cptr (cs.map dem), ⟨V.set i (.cptr (cs.map dem)), l, g, h⟩)
  | some v => sv (cp v) ⟨V, l, g, h⟩
  | none => none := by
 simp only [capt, raw, rd]
 cases V[i]? with
 | none => rfl
 | some v => cases v <;> rfl
@[simp] theorem capt_c (p : PV) : capt ⟨V, l, g, h⟩ (.c p) = sv (cp p) ⟨V, l, g, h⟩ := by simp only [capt, rd, raw, Option.bind_some, map_sv]
@[simp] theorem capt_l (i : Nat) : capt ⟨V, l, g, h⟩ (.l i) = sv (rd ⟨V, l, g, h⟩ (.l i)) ⟨V, l, g, h⟩ := by simp only [capt, map_sv]
@[simp] theorem capts_nil (st : St) : capts st [] = some ([], st) := rfl
@[simp] theorem capts_cons (x : PX) (xs : List PX) : capts ⟨V, l, g, h⟩ (x :: xs) = match capt ⟨V, l, g, h⟩ x with
  | some (v, st) => (match capts st xs with | some (vs, st) => some (v :: vs, st) | none => none)
  | none => none := by
 simp only [capts]
 cases capt ⟨V, l, g, h⟩ x with
 | none => rfl
 | some r => simp only [Option.bind_some]; cases capts r.2 xs <;> rfl
@[simp] theorem opv_newobj (z : List PV) : opv cf (.h (.newobj z)) ⟨V, l, g, h⟩ = some (.ptr h.length 0, ⟨V, l, g, h ++ [.cells z]⟩) := rfl
@[simp] theorem opv_boxobj (s : Nat) (x : PX) : opv cf (.h (.boxobj s x)) ⟨V, l, g, h⟩ = match rd ⟨V, l, g, h⟩ x with
  | some v => if v.cells.length = s then some (.ptr h.length 0, ⟨V, l, g, h ++ [.cells v.cells]⟩) else none
  | none => none := rfl
@[simp] theorem opv_newbld : opv cf (.h .newbld) ⟨V, l, g, h⟩ = some (.ptr h.length 0, ⟨V, l, g, h ++ [.bld []]⟩) := rfl
/-- What a slice holds, in a heap. -/
def elsIn (h : List PObj) : PV → Option (List PV)
 | .rowp n sz agg len => if agg = true ∨ sz = 1 then (match h[n]? with | some (.cells cs) => rowEls sz agg cs len 0 | _ => none) else none
 | p => asRow p
@[simp] theorem elsIn_list (o : Bool) (es : List PV) : elsIn h (.list o es) = some es := rfl
@[simp] theorem elsIn_nils : elsIn h .nils = some [] := rfl
@[simp] theorem elsIn_void : elsIn h .void = some [] := rfl
theorem elsOf_mk (x : PX) : elsOf ⟨V, l, g, h⟩ x = match rd ⟨V, l, g, h⟩ x with | some v => elsIn h v | none => none := by
 unfold elsOf
 cases rd ⟨V, l, g, h⟩ x with
 | none => rfl
 | some v => cases v <;> try rfl
             rename_i n sz agg len
             simp only [elsIn]
             split
             ·simp only [hget]
              cases h[n]? with
              | none => rfl
              | some o => cases o <;> rfl
             ·rfl
/-- An append to a row of the heap. -/
def happv (h : List PObj) (size : Nat) (agg : Bool) (bytes : Nat) (xs : List PV) (v : PV) (st : St) : Option (PV × St) :=
 match v with
 | .rowp n sz ag len =>
   match h[n]? with
   | some (.cells cs) =>
     if sz = size ∧ ag = agg ∧ len * size ≤ cs.length ∧ headOk size xs ∧ len + xs.length ≤ 2147483648 ∧ bytes ≤ 16384 then
      some (.rowp h.length size agg (len + xs.length), { st with heap := h.set n .gone ++ [.cells (cs.take (len * size) ++ (xs.flatMap PV.cells).map dem)] })
     else none
   | _ => none
 | .list true [] =>
   if xs = [] then some (.list true [], st)
   else if headOk size xs ∧ xs.length ≤ 2147483648 ∧ bytes ≤ 16384 then
    some (.rowp h.length size agg xs.length, { st with heap := h ++ [.cells ((xs.flatMap PV.cells).map dem)] })
   else none
 | .nils =>
   if xs = [] then some (.nils, st)
   else if headOk size xs ∧ xs.length ≤ 2147483648 ∧ bytes ≤ 16384 then
    some (.rowp h.length size agg xs.length, { st with heap := h ++ [.cells ((xs.flatMap PV.cells).map dem)] })
   else none
 | _ => none
@[simp] theorem bind_asRow (v : PV) : (some v).bind asRow = asRow v := rfl
@[simp] theorem asRow_list (o : Bool) (es : List PV) : asRow (.list o es) = some es := rfl
@[simp] theorem opv_happ (s : Nat) (agg : Bool) (b : Nat) (a x : PX) : opv cf (.h (.happ s agg b a x)) ⟨V, l, g, h⟩ = match (match rd ⟨V, l, g, h⟩ x with | some v => elsIn h v | none => none), raw ⟨V, l, g, h⟩ a with
  | some xs, some v => happv h s agg b xs v ⟨V, l, g, h⟩
  | _, _ => none := by
 simp only [opv, hopv, elsOf_mk]
 cases (match rd ⟨V, l, g, h⟩ x with | some v => elsIn h v | none => none) with
 | none => rfl
 | some xs => cases raw ⟨V, l, g, h⟩ a with
   | none => rfl
   | some v => cases v <;> try rfl
               rename_i o es
               cases o <;> try rfl
               cases es <;> rfl
@[simp] theorem opv_happz (s : Nat) (agg : Bool) (b : Nat) (z : List PV) (a x : PX) : opv cf (.h (.happz s agg b z a x)) ⟨V, l, g, h⟩ = match rdInt ⟨V, l, g, h⟩ x, rd ⟨V, l, g, h⟩ a with
  | some n, some .nils => if 0 < n ∧ n ≤ 2147483648 ∧ b ≤ 16384 then some (.rowp h.length s agg n.toNat, ⟨V, l, g, h ++ [.cells (List.replicate n.toNat (z.map dem)).flatten]⟩) else none
  | _, _ => none := rfl
@[simp] theorem tailOf_rows (n sz : Nat) (a : Bool) (off len : Nat) : tailOf (.rows n sz a off len) = some (n, sz, off) := rfl
@[simp] theorem tailOf_rowp (n sz : Nat) (a : Bool) (len : Nat) : tailOf (.rowp n sz a len) = some (n, sz, 0) := rfl
@[simp] theorem opv_clear (s : Nat) (x : PX) : opv cf (.h (.clear s x)) ⟨V, l, g, h⟩ = match (match rd ⟨V, l, g, h⟩ x with | some v => tailOf v | none => none) with
  | some (n, sz, off) =>
    match h[n]? with
    | some (.cells cs) => if sz = s ∧ off * s ≤ cs.length then some (.dead, ⟨V, l, g, h.set n (.cells (cs.take (off * s)))⟩) else none
    | _ => none
  | _ => none := by
 simp only [opv, hopv]
 cases rd ⟨V, l, g, h⟩ x with
 | none => rfl
 | some v => rfl
@[simp] theorem opv_mkfresh (s : Nat) (agg : Bool) (b : Nat) (z : List PV) (x : PX) : opv cf (.h (.mkfresh s agg b z x)) ⟨V, l, g, h⟩ = match rdInt ⟨V, l, g, h⟩ x with
  | some n => if 0 ≤ n ∧ b * n ≤ 281474976710656 ∧ n ≤ 9223372036854775807 then some (.fresh s agg n.toNat (List.replicate n.toNat (z.map dem)).flatten, ⟨V, l, g, h⟩) else none
  | none => none := rfl
@[simp] theorem opv_buildA (js : List Nat) (z : List PV) (ps : List (Nat × Nat × PX)) : opv cf (.h (.buildA js z ps)) ⟨V, l, g, h⟩ = (adoptAll js ⟨V, l, g, h⟩).bind fun st => ((rdParts st ps).bind (setParts z)).map fun cs => (.agg cs, st) := rfl
@[simp] theorem opv_loadn (a : PX) : opv cf (.h (.loadn a)) ⟨V, l, g, h⟩ = match addr ⟨V, l, g, h⟩ a with
  | some (.ptr n off) => (hget ⟨V, l, g, h⟩ n).bind fun cs => match cs[off]? with
    | some (.list true es) => some (.list true es, hset ⟨V, l, g, h⟩ n (.cells (cs.set off (.list false es))))
    | some .nils => some (.list true [], ⟨V, l, g, h⟩)
    | _ => none
  | _ => none := rfl
@[simp] theorem opv_mkrow (s : Nat) (agg : Bool) (z : PV) (len : Nat) (ps : List (Nat × PX)) : opv cf (.h (.mkrow s agg z len ps)) ⟨V, l, g, h⟩ = ((rdElems ⟨V, l, g, h⟩ ps).bind (setElems s (List.replicate len z))).map fun es => (.rowp h.length s agg es.length, ⟨V, l, g, h ++ [.cells ((es.flatMap PV.cells).map dem)]⟩) := rfl
@[simp] theorem opv_mkarr (s : Nat) (agg : Bool) (b : Nat) (z : List PV) (x : PX) : opv cf (.h (.mkarr s agg b z x)) ⟨V, l, g, h⟩ = match rdInt ⟨V, l, g, h⟩ x with
  | some n => if 0 ≤ n ∧ b * n ≤ 281474976710656 ∧ n ≤ 9223372036854775807 then some (.rowp h.length s agg n.toNat, ⟨V, l, g, h ++ [.cells (List.replicate n.toNat z).flatten]⟩) else none
  | none => none := rfl
@[simp] theorem opv_range (x : PX) : opv cf (.h (.range x)) ⟨V, l, g, h⟩ = match rd ⟨V, l, g, h⟩ x with
  | some (.str s) => some (.ptr h.length 0, ⟨V, l, g, h ++ [.siter s 0]⟩)
  | _ => none := rfl
@[simp] theorem opv_next (x : PX) : opv cf (.h (.next x)) ⟨V, l, g, h⟩ = match rd ⟨V, l, g, h⟩ x with
  | some (.ptr n 0) =>
    match h[n]? with
    | some (.siter s pos) =>
      if pos < s.length then some (.tuple [.bool true, .int .i64 pos, .int .i32 (Go.Utf8.decode ⟨s.toArray⟩ pos).1], ⟨V, l, g, h.set n (.siter s (pos + (Go.Utf8.decode ⟨s.toArray⟩ pos).2))⟩)
      else some (.tuple [.bool false], ⟨V, l, g, h⟩)
    | _ => none
  | _ => none := rfl
@[simp] theorem opv_mkmap : opv cf (.h .mkmap) ⟨V, l, g, h⟩ = some (.map (some h.length), ⟨V, l, g, h ++ [.map []]⟩) := rfl
@[simp] theorem opv_hload (s : Nat) (agg : Bool) (a : PX) (t : Bool) : opv cf (.h (.load s agg a t)) ⟨V, l, g, h⟩ = match addr ⟨V, l, g, h⟩ a with
  | some (.cptr cs) => sv (loadFrom s agg cs 0) ⟨V, l, g, h⟩
  | some (.ptr n off) =>
    match h[n]? with
    | some (.cells cs) =>
      match t && !agg, cs[off]? with
      | true, some (.list true es) => some (.list true es, ⟨V, l, g, h.set n (.cells (cs.set off (.list false es)))⟩)
      | _, _ => sv (loadFrom s agg cs off) ⟨V, l, g, h⟩
    | _ => none
  | _ => none := by
 simp only [opv, hopv, map_sv]
 cases addr ⟨V, l, g, h⟩ a with
 | none => rfl
 | some p =>
   cases p <;> try rfl
   simp only [hget_mk]
   rename_i n off
   cases h[n]? with
   | none => rfl
   | some o => cases o <;> rfl
@[simp] theorem opv_hstorer (s : Nat) (agg : Bool) (a x : PX) : opv cf (.h (.storer s agg a x)) ⟨V, l, g, h⟩ = match addr ⟨V, l, g, h⟩ a, rd ⟨V, l, g, h⟩ x with
  | some (.ptr n off), some v => if isList v then none else (match h[n]? with
    | some (.cells cs) => (match storeInto s agg cs off v with | some cs => some (.dead, ⟨V, l, g, h.set n (.cells cs)⟩) | none => none)
    | _ => none)
  | _, _ => none := by
 simp only [opv, hopv]
 cases addr ⟨V, l, g, h⟩ a with
 | none => rfl
 | some p =>
   cases p <;> try rfl
   rename_i n off
   cases rd ⟨V, l, g, h⟩ x with
   | none => rfl
   | some v =>
     simp only
     split
     ·rfl
     ·simp only [hget]
      cases h[n]? with
      | none => rfl
      | some ob =>
        cases ob <;> try rfl
        rename_i cs
        simp only [Option.bind_some]
        cases storeInto s agg cs off v <;> rfl
@[simp] theorem opv_hstore (s : Nat) (agg : Bool) (a x : PX) : opv cf (.h (.store s agg a x)) ⟨V, l, g, h⟩ = match addr ⟨V, l, g, h⟩ a, tk ⟨V, l, g, h⟩ x with
  | some (.ptr n off), some (v, ⟨V, l, g, h⟩) =>
    match h[n]? with
    | some (.cells cs) => (match storeInto s agg cs off v with | some cs => some (.dead, ⟨V, l, g, h.set n (.cells cs)⟩) | none => none)
    | _ => none
  | _, _ => none := by
 simp only [opv, hopv]
 cases addr ⟨V, l, g, h⟩ a with
 | none => rfl
 | some p =>
   cases p <;> try rfl
   cases tk ⟨V, l, g, h⟩ x with
   | none => rfl
   | some r =>
     obtain ⟨v, ⟨V2, l2, g2, h2⟩⟩ := r
     simp only [hget_mk]
     rename_i n off
     cases h2[n]? with
     | none => rfl
     | some o =>
       cases o <;> try rfl
       rename_i cs
       simp only [Option.bind_some]
       cases storeInto s agg cs off v <;> rfl
@[simp] theorem opv_hiaddr (n' s : Nat) (x i : PX) : opv cf (.h (.iaddr n' s x i)) ⟨V, l, g, h⟩ = match addr ⟨V, l, g, h⟩ x, rdInt ⟨V, l, g, h⟩ i with
  | some (.ptr n o), some k => if 0 ≤ k ∧ k < n' then some (.ptr n (o + k.toNat * s), ⟨V, l, g, h⟩) else none
  | _, _ => none := rfl
/-- What a lookup comes to. -/
def looked (ok take : Bool) (zero : PV) (n : Option Nat) (es : List (PV × PV)) (st : St) : Option (Nat × PV) → Option (PV × St)
 | some (i, v) =>
   if take && !ok && isOwn v then some (v, hset st (n.getD 0) (.map (es.modify i fun e => (e.1, dem e.2))))
   else some (if ok then .tuple [dem v, .bool true] else dem v, st)
 | none => some (if ok then .tuple [zero, .bool false] else zero, st)
@[simp] theorem looked_none (ok take : Bool) (zero : PV) (n : Option Nat) (es : List (PV × PV)) (st : St) : looked ok take zero n es st none = some (if ok then .tuple [zero, .bool false] else zero, st) := rfl
@[simp] theorem looked_some (ok : Bool) (zero : PV) (n : Option Nat) (es : List (PV × PV)) (st : St) (i : Nat) (v : PV) : looked ok false zero n es st (some (i, v)) = some (if ok then .tuple [dem v, .bool true] else dem v, st) := by
 simp [looked]
@[simp] theorem looked_take (zero : PV) (n : Nat) (es : List (PV × PV)) (i : Nat) (v : PV) : looked false true zero (some n) es ⟨V, l, g, h⟩ (some (i, v)) = if isOwn v then some (v, ⟨V, l, g, h.set n (.map (es.modify i fun e => (e.1, dem e.2)))⟩) else some (dem v, ⟨V, l, g, h⟩) := by
 simp [looked]
@[simp] theorem opv_lookup (ok take kagg : Bool) (ks : List EK) (zero : PV) (m x : PX) : opv cf (.h (.lookup ok take kagg ks zero m x)) ⟨V, l, g, h⟩ = match rd ⟨V, l, g, h⟩ m, rd ⟨V, l, g, h⟩ x with
  | some (.map n), some k =>
    match mget ⟨V, l, g, h⟩ n with
    | some es => (match mfind kagg ks k es 0 with | some r => looked ok take zero n es ⟨V, l, g, h⟩ r | none => none)
    | none => none
  | _, _ => none := by
 simp only [opv, hopv]
 cases rd ⟨V, l, g, h⟩ m with
 | none => rfl
 | some p =>
   cases p <;> try rfl
   rename_i n
   cases rd ⟨V, l, g, h⟩ x with
   | none => rfl
   | some k =>
     simp only
     cases mget ⟨V, l, g, h⟩ n with
     | none => rfl
     | some es =>
       simp only [Option.bind_some]
       cases mfind kagg ks k es 0 with
       | none => rfl
       | some r => cases r <;> rfl
@[simp] theorem opv_mlen (m : PX) : opv cf (.h (.mlen m)) ⟨V, l, g, h⟩ = match rd ⟨V, l, g, h⟩ m with
  | some (.map n) => (match mget ⟨V, l, g, h⟩ n with | some es => some (.int .i64 es.length, ⟨V, l, g, h⟩) | none => none)
  | _ => none := by
 simp only [opv, hopv]
 cases rd ⟨V, l, g, h⟩ m with
 | none => rfl
 | some p => cases p <;> try rfl
             rename_i n; simp only; cases mget ⟨V, l, g, h⟩ n <;> rfl
@[simp] theorem opv_mkfunc (k : Nat) (a b : List PX) : opv cf (.h (.mkfunc k a b)) ⟨V, l, g, h⟩ = match capts ⟨V, l, g, h⟩ a with
  | some (f, st) => (match capts st b with | some (c, st) => some (.func k f c, st) | none => none)
  | none => none := by
 simp only [opv, hopv]
 cases capts ⟨V, l, g, h⟩ a with
 | none => rfl
 | some r => simp only [Option.bind_some]; cases capts r.2 b <;> rfl
@[simp] theorem opv_isnil (kd : Nat) (neg : Bool) (x : PX) : opv cf (.h (.isnil kd neg x)) ⟨V, l, g, h⟩ = match rd ⟨V, l, g, h⟩ x with
  | some p => (match nilness kd p with | some b => some (.bool (if neg then !b else b), ⟨V, l, g, h⟩) | none => none)
  | none => none := by
 simp only [opv, hopv]
 cases rd ⟨V, l, g, h⟩ x with
 | none => rfl
 | some p => simp only [Option.bind_some]; cases nilness kd p <;> rfl
@[simp] theorem opv_nilchk (x : PX) : opv cf (.h (.nilchk x)) ⟨V, l, g, h⟩ = match addr ⟨V, l, g, h⟩ x with
  | some (.ptr n o) => some (.ptr n o, ⟨V, l, g, h⟩)
  | some (.cptr cs) => some (.cptr cs, ⟨V, l, g, h⟩)
  | some (.lptr s g0 o) => some (.lptr s g0 o, ⟨V, l, g, h⟩)
  | _ => none := rfl
@[simp] theorem opv_loadc (s : Nat) (agg : Bool) (a : PX) : opv cf (.h (.loadc s agg a)) ⟨V, l, g, h⟩ = match rd ⟨V, l, g, h⟩ a with
  | some (.cptr cs) => sv (loadFrom s agg cs 0) ⟨V, l, g, h⟩
  | _ => none := by
 simp only [opv, hopv, map_sv]; rfl
@[simp] theorem opv_barr (z : List PV) (ps : List (Nat × Nat × PX)) : opv cf (.h (.barr z ps)) ⟨V, l, g, h⟩ = match rdParts ⟨V, l, g, h⟩ ps with
  | some es => (match setParts z es with | some cs => some (.agg cs, ⟨V, l, g, h⟩) | none => none)
  | none => none := by
 simp only [opv, hopv]; cases rdParts ⟨V, l, g, h⟩ ps <;> simp; rename_i es; cases setParts z es <;> rfl
@[simp] theorem opv_idxA (n s : Nat) (agg : Bool) (x i : PX) : opv cf (.h (.idxA n s agg x i)) ⟨V, l, g, h⟩ = match rd ⟨V, l, g, h⟩ x, rdInt ⟨V, l, g, h⟩ i with
  | some v, some k => (match aggCells v with | some cs => if 0 ≤ k ∧ k < n then sv (loadFrom s agg cs (k.toNat * s)) ⟨V, l, g, h⟩ else none | none => none)
  | _, _ => none := by
 simp only [opv, hopv, map_sv]
 cases rd ⟨V, l, g, h⟩ x with
 | none => rfl
 | some v => cases v <;> (cases rdInt ⟨V, l, g, h⟩ i <;> rfl)
@[simp] theorem opv_hcall (k : Nat) (args : List PX) : opv cf (.h (.call k args)) ⟨V, l, g, h⟩ = match rdAll ⟨V, l, g, h⟩ args with
  | some vs => (match cf k vs h with | some (r, h) => some (dem r, ⟨V, l, g, h⟩) | none => none)
  | none => none := by
 simp only [opv, hopv]
 cases rdAll ⟨V, l, g, h⟩ args with
 | none => rfl
 | some vs => simp only [Option.bind_some]; cases cf k vs h <;> rfl
@[simp] theorem opv_hicall (tab : List (Nat × Nat × Option (Nat × Bool))) (x : PX) (args : List PX) : opv cf (.h (.icall tab x args)) ⟨V, l, g, h⟩ = match methOf ⟨V, l, g, h⟩ tab (rd ⟨V, l, g, h⟩ x) with
  | some m => match rdAll ⟨V, l, g, h⟩ args with
    | some vs => match cf m.1 (m.2 :: vs) h with
      | some (r, h) => some (dem r, ⟨V, l, g, h⟩)
      | none => none
    | none => none
  | none => none := by
 simp only [opv, hopv]
 cases methOf ⟨V, l, g, h⟩ tab (rd ⟨V, l, g, h⟩ x) with
 | none => rfl
 | some m =>
   simp only [Option.bind_some]
   cases rdAll ⟨V, l, g, h⟩ args with
   | none => rfl
   | some vs =>
     simp only [Option.bind_some]
     cases cf m.1 (m.2 :: vs) h <;> rfl
@[simp] theorem opv_hzcall (k : Nat) (args : List PX) : opv cf (.h (.zcall k args)) ⟨V, l, g, h⟩ = match rdAll ⟨V, l, g, h⟩ args with
  | some vs => if refFrees (frzL h vs) then (match cf k (frzL h vs) [] with
    | some (r, h') => if refFree (frz h' r) then some (dem (frz h' r), ⟨V, l, g, gones (nosInL vs) h⟩) else none
    | none => none) else none
  | none => none := by
 simp only [opv, hopv]
 cases rdAll ⟨V, l, g, h⟩ args with
 | none => rfl
 | some vs =>
   simp only [Option.bind_some]
   cases cf k (frzL h vs) [] <;> rfl
@[simp] theorem opv_hlcall (k : Nat) (args : List PX) : opv cf (.h (.lcall k args)) ⟨V, l, g, h⟩ = match rdAll ⟨V, l, g, h⟩ args with
  | some vs => (match frozAll h vs with | some ws => (if refFrees ws then (match cf k ws [] with | some (r, _) => (if plainV r then some (dem r, ⟨V, l, g, h⟩) else none) | none => none) else none) | none => none)
  | none => none := by
 simp only [opv, hopv, lendTo]
 cases rdAll ⟨V, l, g, h⟩ args with
 | none => rfl
 | some vs =>
   simp only [Option.bind_some, lendTo]
   cases frozAll h vs with
   | none => rfl
   | some ws => simp only [Option.bind_some]; cases cf k ws [] <;> rfl
@[simp] theorem opv_hrcall (k : Nat) (args : List PX) : opv cf (.h (.rcall k args)) ⟨V, l, g, h⟩ = match rdAll ⟨V, l, g, h⟩ args with
  | some vs => (match cf k vs h with | some (r, h') => same ⟨V, l, g, h⟩ (r, h') | none => none)
  | none => none := by
 simp only [opv, hopv]
 cases rdAll ⟨V, l, g, h⟩ args with
 | none => rfl
 | some vs => simp only [Option.bind_some]; cases cf k vs h <;> rfl
@[simp] theorem same_mk (r : PV) : same ⟨V, l, g, h⟩ (r, h) = some (dem r, ⟨V, l, g, h⟩) := by simp [same]
@[simp] theorem opv_hcallv (x : PX) (args : List PX) : opv cf (.h (.callv x args)) ⟨V, l, g, h⟩ = match rd ⟨V, l, g, h⟩ x, rdAll ⟨V, l, g, h⟩ args with
  | some (.func k f c), some vs => (match cf k (f ++ vs ++ c) h with | some (r, h) => some (dem r, ⟨V, l, g, h⟩) | none => none)
  | _, _ => none := by
 simp only [opv, hopv]
 cases rd ⟨V, l, g, h⟩ x with
 | none => rfl
 | some p =>
   cases p <;> try rfl
   rename_i k f c
   cases rdAll ⟨V, l, g, h⟩ args with
   | none => rfl
   | some vs => simp only; cases cf k (f ++ vs ++ c) h <;> rfl
@[simp] theorem opv_callv (x : PX) (args : List PX) : opv cf (.callv x args) ⟨V, l, g, h⟩ = match rd ⟨V, l, g, h⟩ x, rdAll ⟨V, l, g, h⟩ args with
  | some (.func k f c), some vs => if refFrees (f ++ vs ++ c) then (match cf k (f ++ vs ++ c) [] with | some (r, _) => if refFree r then some (dem r, ⟨V, l, g, h⟩) else none | none => none) else none
  | _, _ => none := by
 simp only [opv]
 cases rd ⟨V, l, g, h⟩ x with
 | none => rfl
 | some p =>
   cases p <;> try rfl
attribute [simp] nilness vague
@[simp] theorem opv_slice (str : Bool) (s : Nat) (x : PX) (lo hi : Option PX) : opv cf (.slice str s x lo hi) ⟨V, l, g, h⟩ = match str, rd ⟨V, l, g, h⟩ x with
  | true, some (.str t) => (match bound ⟨V, l, g, h⟩ hi t.length t.length with | some b => (match bound ⟨V, l, g, h⟩ lo 0 b with | some a => some (.str ((t.take b).drop a), ⟨V, l, g, h⟩) | none => none) | none => none)
  | false, some (.list _ es) => if headOk s es then (match bound ⟨V, l, g, h⟩ hi es.length es.length with | some b => (match bound ⟨V, l, g, h⟩ lo 0 b with | some a => some (.list false ((es.take b).drop a), ⟨V, l, g, h⟩) | none => none) | none => none) else none
  | false, some .nils => (match bound ⟨V, l, g, h⟩ hi 0 0 with | some b => (match bound ⟨V, l, g, h⟩ lo 0 b with | some a => some (.nils, ⟨V, l, g, h⟩) | none => none) | none => none)
  | false, some (.rowp n sz agg len) => if sz = s then (match bound ⟨V, l, g, h⟩ hi len len with | some b => (match bound ⟨V, l, g, h⟩ lo 0 b with | some a => some (if a = 0 then .rowp n sz agg b else .rows n sz agg a (b - a), ⟨V, l, g, h⟩) | none => none) | none => none) else none
  | _, _ => none := by
 simp only [opv]
 cases str
 ·cases rd ⟨V, l, g, h⟩ x with
  | none => rfl
  | some p =>
    cases p <;> try rfl
    all_goals simp only
    all_goals first
     | (split
        ·cases bound ⟨V, l, g, h⟩ hi _ _ with
         | none => rfl
         | some b => simp only [Option.bind_some]; cases bound ⟨V, l, g, h⟩ lo 0 b <;> rfl
        ·rfl)
     | (cases bound ⟨V, l, g, h⟩ hi _ _ with
        | none => rfl
        | some b => simp only [Option.bind_some]; cases bound ⟨V, l, g, h⟩ lo 0 b <;> rfl)
 ·cases rd ⟨V, l, g, h⟩ x with
  | none => rfl
  | some p =>
    cases p <;> try rfl
    simp only
    cases bound ⟨V, l, g, h⟩ hi _ _ with
    | none => rfl
    | some b => simp only [Option.bind_some]; cases bound ⟨V, l, g, h⟩ lo 0 b <;> rfl
end
end PI
