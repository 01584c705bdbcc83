import Derived.Test.YtljbhgpanekomaaGreatDoorPiScLaw1
set_option maxRecDepth 100000
set_option linter.unusedSimpArgs false
set_option linter.unusedVariables false
namespace PI.Sc
open Go (IntKind BinOp UnOp)
open Short
def eachRun (y : Expr → List PObj → Option (Out × List PObj)) : List Expr → List PObj → Option (Out × List PObj)
 | [], h => some (.val (.bool true), h)
 | x :: xs, h => match y x h with
   | some (.val (.bool true), h') => eachRun y xs h'
   | r => r
theorem eachRun_app (y : Expr → List PObj → Option (Out × List PObj)) : ∀ (a b : List Expr) (h : List PObj), eachRun y (a ++ b) h = match eachRun y a h with
  | some (.val (.bool true), h') => eachRun y b h'
  | r => r
 | [], b, h => rfl
 | x :: a, b, h => by
   simp only [List.cons_append, eachRun]
   split
   ·exact eachRun_app y a b _
   ·rename_i hne
    split
    ·rename_i h1; exact absurd h1 (hne _)
    ·rfl
theorem storeInto1 (n : Nat) (cs : List PV) (off : Nat) (v : PV) : storeInto n false cs off v = if off < cs.length ∧ v.flat = true then some (cs.set off v) else none := rfl
section
variable {L : Nat → Option PFunc} {V l : List PV} {g : Nat} {h : List PObj}
@[simp] theorem set_same {n : Nat} {o o' : PObj} : (h.set n o).set n o' = h.set n o' := List.set_set ..
theorem set_back {n : Nat} {o : PObj} (hn : h[n]? = some o) : h.set n o = h := by
 obtain ⟨hlt, he⟩ := List.getElem?_eq_some_iff.1 hn
 rw [← he]; exact List.set_getElem_self hlt
end
section
variable {L : Nat → Option PFunc} (hL : ∀ k f, LS k = some f → L k = some f)
include hL
theorem pr_each (kb : Nat) (first captured : List PV) (y : Expr → List PObj → Option (Out × List PObj)) (hfr : ∀ p ∈ first ++ captured, cp p = some p) (hb : ∀ x h r, y x h = some r → (∃ b h', r = (.val (.bool b), h')) ∨ ∃ v h', r = (.boom v, h')) (e : Expr) : EW e → (∀ x ∈ e.list, ∀ h r, y x h = some r → outL L kb (first ++ [eExpr x] ++ captured) h = some r) → ∀ (h : List PObj) (r : Out × List PObj), eachRun y e.list h = some r → outL L 141 [eExpr e, .func kb first captured] h = some r := by
 induction e using Expr.ind with
 | h e ih =>
 intro he hy h r hr
 obtain ⟨_, _, hal⟩ := he.self
 rw [Expr.list_eq] at hr
 simp only [eachRun] at hr
 refine outL_wp (hL 141 _ rfl) rfl ?_
 cases hye : y e h with
 | none => rw [hye] at hr; simp at hr
 | some q =>
   rw [hye] at hr
   have hyo := hy e (by rw [Expr.list_eq]; simp) h q hye
   simp only [List.append_assoc] at hyo
   rcases hb e h q hye with ⟨b, h', rfl⟩ | ⟨v, h', rfl⟩
   ·cases b with
    | false =>
      simp only [Option.some.injEq] at hr
      subst hr
      simp at hyo
      simp [f_expr_each, hyo]
    | true =>
      simp only at hr
      simp at hyo
      simp [f_expr_each, hyo]
      suffices H : ∀ (n i : Nat) (h : List PObj) (x4 : PV) (g : Nat), i + n = e.args.length → eachRun y ((e.args.drop i).flatMap Expr.list) h = some r → wpL L f_expr_each_l0 ⟨[eExpr e, .func kb first captured, .loc 0 (eExpr e).cells, .bool false, x4, .list false (e.args.map eExpr), .int .i64 e.args.length, .int .i64 i], [], g, h⟩ (blockK 0 (seqK L (S (R [t 3 T]) Y) (endO L f_expr_each r))) by
       simpa [f_expr_each] using H e.args.length 0 h' .dead 1 (by omega) (by simpa using hr)
      intro n
      induction n with
      | zero =>
        intro i h x4 g hi hr
        have : i = e.args.length := by omega
        subst this
        rw [List.drop_eq_nil_of_le (Nat.le_refl _)] at hr
        simp only [List.flatMap_nil, eachRun, Option.some.injEq] at hr
        subst hr
        rw [f_expr_each_l0, wpL_loop]
        simp [f_expr_each]
      | succ n ih2 =>
        intro i h x4 g hi hr
        have hil : i < e.args.length := by omega
        have hw := wrap_succ i (by omega)
        rw [List.drop_eq_getElem_cons hil, List.flatMap_cons, eachRun_app] at hr
        rw [f_expr_each_l0, wpL_loop]
        cases hq : eachRun y e.args[i].list h with
        | none => rw [hq] at hr; simp at hr
        | some q =>
          have hc := ih e.args[i] (List.getElem_mem hil) (he.arg (List.getElem_mem hil)) (fun x hx => hy x (by rw [Expr.list_eq]; exact List.mem_cons_of_mem _ (List.mem_flatMap.2 ⟨_, List.getElem_mem hil, hx⟩))) h q hq
          rw [hq] at hr
          have hqs : (∃ b h', q = (.val (.bool b), h')) ∨ ∃ v h', q = (.boom v, h') := by
           have key : ∀ (l : List Expr) (h : List PObj) (q), eachRun y l h = some q → (∃ b h', q = (.val (.bool b), h')) ∨ ∃ v h', q = (.boom v, h') := by
            intro l
            induction l with
            | nil => intro h q hq; simp only [eachRun, Option.some.injEq] at hq; exact .inl ⟨true, h, hq.symm⟩
            | cons x l ihl =>
              intro h q hq
              simp only [eachRun] at hq
              split at hq
              ·exact ihl _ _ hq
              ·exact hb _ _ _ hq
           exact key _ _ _ hq
          rcases hqs with ⟨b, h2, rfl⟩ | ⟨v, h2, rfl⟩
          ·cases b with
           | false =>
             simp only [Option.some.injEq] at hr
             subst hr
             simp [hil, hc, f_expr_each]
           | true =>
             simp only at hr
             simp [hil, hc, hw]
             have := ih2 (i + 1) h2 (.loc g (eExpr e.args[i]).cells) (g + 1) (by omega) hr
             rw [f_expr_each_l0] at this
             simpa using this
          ·simp only [Option.some.injEq] at hr
           subst hr
           simp [hil, hc, f_expr_each]
   ·simp only [Option.some.injEq] at hr
    subst hr
    simp at hyo
    simp [f_expr_each, hyo]
theorem pr_Each (e : Expr) (h : List PObj) : callL L 81 [eExpr e] h = some (.func 114 [] [.cptr (eExpr e).cells], h) := by
 refine callL_wp (hL 81 _ rfl) rfl ?_
 simp [f_expr_Each]
theorem pr_range {V l : List PV} {g : Nat} {h : List PObj} {Q : PExit → St → Prop} {x : PX} {kb : Nat} {caps : List PX} {cs : List PV} (e : Expr) (he : EW e) (hx : rd ⟨V, l, g, h⟩ x = some (.func 114 [] [.cptr (eExpr e).cells])) (hc : rdAll ⟨V, l, g, h⟩ caps = some cs) (hcs : ∀ p ∈ cs, cp p = some p)
  (y : Expr → List PObj → Option (Out × List PObj)) (hy : ∀ x ∈ e.list, ∀ h' r, y x h' = some r → outL L kb (.ptr h.length 0 :: (cs ++ [eExpr x])) h' = some r) (hb : ∀ x h r, y x h = some r → (∃ b h', r = (.val (.bool b), h')) ∨ ∃ v h', r = (.boom v, h'))
  (r : Out × List PObj) (hr : eachRun y e.list (h ++ [.loop true]) = some r) (hq : overK V l g h.length Q r) : wpL L (.rangeF x kb caps) ⟨V, l, g, h⟩ Q := by
 have hnr : noRound L 114 = true := by unfold noRound; rw [hL 114 _ rfl]; rfl
 have hE := pr_each hL kb (.ptr h.length 0 :: cs) [] y (by
  intro p hp
  simp only [List.append_nil, List.mem_cons] at hp
  rcases hp with rfl | hp
  ·rfl
  ·exact hcs p hp) hb e he (fun x hx h' r hr => by have := hy x hx h' r hr; simpa using this) _ r hr
 have ho : ∃ r', outL L 114 ([] ++ .func kb (.ptr h.length 0 :: cs) [] :: [.cptr (eExpr e).cells]) (h ++ [.loop true]) = some r' ∧ overK V l g h.length Q r' := by
  obtain ⟨o, h'⟩ := r
  cases o with
  | val v =>
    refine ⟨(.val (.tuple []), h'), ?_, hq⟩
    refine outL_wp (hL 114 _ rfl) rfl ?_
    simp [f_expr_Each_1, hE]
  | boom v =>
    refine ⟨(.boom v, h'), ?_, hq⟩
    refine outL_wp (hL 114 _ rfl) rfl ?_
    simp [f_expr_Each_1, hE]
 obtain ⟨r', h1, h2⟩ := ho
 exact wpL_rangeF hx hc hnr h1 h2
end
end PI.Sc
set_option maxRecDepth 100000
set_option linter.unusedSimpArgs false
set_option linter.unusedVariables false
namespace PI.Sc
open Go (IntKind BinOp UnOp)
open Short
def badS (t : Nat) (a b e : Int) : PV := .iface t (.agg [.int .i64 a, .int .i64 b, .int .i64 e])
def shapeObj (en : List Enum) (a b : Int) : PObj := .cells [.list false (en.map eEnum), .int .i64 a, .int .i64 b]
end PI.Sc
set_option maxRecDepth 100000
set_option linter.unusedSimpArgs false
set_option linter.unusedVariables false
namespace PI.Sc
open Go (IntKind BinOp UnOp)
open Short
end PI.Sc
set_option maxRecDepth 100000
set_option linter.unusedSimpArgs false
set_option linter.unusedVariables false
namespace PI
section
variable {L : Nat → Option PFunc} {V l : List PV} {g : Nat} {h : List PObj}
def endOP (L : Nat → Option PFunc) (f : PFunc) (P : PV × List PObj → Prop) (e : PExit) (st : St) : Prop := ∃ v h', endO L f (.val v, h') e st ∧ P (v, h')
@[simp] theorem endOP_normal (f : PFunc) (P : PV × List PObj → Prop) : endOP L f P .normal ⟨V, l, g, h⟩ = ∃ v, resultV ⟨V, l, g, h⟩ f.results = some v ∧ P (v, shutRes V f.results h) := by
 simp only [endOP, endO_normal, eq_iff_iff]
 constructor
 ·rintro ⟨v, h', ⟨v', h1, h2⟩, h3⟩
  simp only [Prod.mk.injEq, Out.val.injEq] at h2
  obtain ⟨rfl, rfl⟩ := h2
  exact ⟨v, h1, h3⟩
 ·rintro ⟨v, h1, h2⟩; exact ⟨v, _, ⟨v, h1, rfl⟩, h2⟩
@[simp] theorem endOP_ret (f : PFunc) (P : PV × List PObj → Prop) : endOP L f P .ret ⟨V, l, g, h⟩ = ∃ v, resultV ⟨V, l, g, h⟩ f.results = some v ∧ P (v, shutRes V f.results h) := endOP_normal (L := L) f P
@[simp] theorem endOP_after (f : PFunc) (P : PV × List PObj → Prop) (kd : Nat) (cs : List PV) (p : Option PV) : endOP L f P (.after kd cs p) ⟨V, l, g, h⟩ = (f.code.NR = true ∧ ∃ h1 x, dfrOf L kd (p.getD .nilIface :: cs) h = some h1 ∧ resultV ⟨V, l, g, h1⟩ f.results = some x ∧ P (x, shutRes V f.results h1)) := by
 simp only [endOP, endO_after, eq_iff_iff]
 constructor
 ·rintro ⟨v, h', ⟨h0, h1, x, h2, h3, h4⟩, h5⟩
  simp only [Prod.mk.injEq, Out.val.injEq] at h4
  obtain ⟨rfl, rfl⟩ := h4
  exact ⟨h0, h1, v, h2, h3, h5⟩
 ·rintro ⟨h0, h1, x, h2, h3, h5⟩; exact ⟨x, _, ⟨h0, h1, x, h2, h3, rfl⟩, h5⟩
def endB (L : Nat → Option PFunc) (f : PFunc) (P : Out × List PObj → Prop) (e : PExit) (st : St) : Prop := ∃ r, endO L f r e st ∧ P r
@[simp] theorem endB_normal (f : PFunc) (P : Out × List PObj → Prop) : endB L f P .normal ⟨V, l, g, h⟩ = ∃ v, resultV ⟨V, l, g, h⟩ f.results = some v ∧ P (.val v, shutRes V f.results h) := by
 simp only [endB, endO_normal, eq_iff_iff]
 constructor
 ·rintro ⟨r, ⟨v, h1, rfl⟩, h2⟩; exact ⟨v, h1, h2⟩
 ·rintro ⟨v, h1, h2⟩; exact ⟨_, ⟨v, h1, rfl⟩, h2⟩
@[simp] theorem endB_ret (f : PFunc) (P : Out × List PObj → Prop) : endB L f P .ret ⟨V, l, g, h⟩ = ∃ v, resultV ⟨V, l, g, h⟩ f.results = some v ∧ P (.val v, shutRes V f.results h) := endB_normal (L := L) f P
@[simp] theorem endB_boom (f : PFunc) (P : Out × List PObj → Prop) (v : PV) : endB L f P (.boom v) ⟨V, l, g, h⟩ = P (.boom v, h) := by
 simp only [endB, endO_boom, eq_iff_iff]
 exact ⟨fun ⟨r, h1, h2⟩ => h1 ▸ h2, fun h2 => ⟨_, rfl, h2⟩⟩
end
end PI
namespace PI.Sc
open Go (IntKind BinOp UnOp)
open Short
section
variable {L : Nat → Option PFunc} (hL : ∀ k f, LS k = some f → L k = some f)
include hL
theorem rec48 (w1 w2 c a b e : Int) (o : PObj) : dfrOf L 48 [badS 2 a b e, .ptr 0 0, .ptr 1 0] [.cells [.int .i64 w1, .int .i64 w2], .cells [.int .i64 c], o] = some [.cells [.int .i64 a, .int .i64 b], .cells [.int .i64 e], o] := by
 unfold dfrOf
 rw [hL 48 _ rfl]
 simp [f_shape_Check_1, pRec, badS]
end
end PI.Sc
set_option maxRecDepth 100000
set_option linter.unusedSimpArgs false
set_option linter.unusedVariables false
namespace PI.Sc
open Go (IntKind BinOp UnOp)
open Short
abbrev Ents := List ((Int × Str) × Int)
def lookObj (en : List Enum) (ns : List Node) (a b : Int) : PObj := .cells [.list false (en.map eEnum), .list false (ns.map eNode), .int .i64 a, .int .i64 b, .map (some 2)]
def bmE (l : List Str) : List (PV × PV) := l.map fun s => (.str s, .bool true)
def putB (l : List Str) (x : Str) : List Str := if x ∈ l then l else l ++ [x]
structure Fr where
 O : List Str
 D : List Str
 I : List Str
 df : List Str
def Kp (b : Nat) (h h' : List PObj) : Prop := h.length ≤ h'.length ∧ ∀ n, n < b → h'[n]? = h[n]?
theorem Kp.refl (b : Nat) (h : List PObj) : Kp b h h := ⟨Nat.le_refl _, fun _ _ => rfl⟩
theorem Kp.trans {b : Nat} {h h' h'' : List PObj} (h1 : Kp b h h') (h2 : Kp b h' h'') : Kp b h h'' := ⟨Nat.le_trans h1.1 h2.1, fun n hn => (h2.2 n hn).trans (h1.2 n hn)⟩
theorem Kp.le {b b' : Nat} {h h' : List PObj} (h1 : Kp b h h') (hb : b' ≤ b) : Kp b' h h' := ⟨h1.1, fun n hn => h1.2 n (by omega)⟩
theorem Kp.app {b : Nat} {h e : List PObj} (hb : b ≤ h.length) : Kp b h (h ++ e) := ⟨by simp, fun n hn => by rw [List.getElem?_append_left (by omega)]⟩
theorem Kp.set {b n : Nat} {h : List PObj} {o : PObj} (hb : b ≤ n) : Kp b h (h.set n o) := ⟨by simp, fun k hk => by rw [List.getElem?_set_ne (by omega)]⟩
def RowAt (h : List PObj) (b' b : Nat) (dv : PV) (df : List Str) : Prop := (dv = .list true [] ∧ df = []) ∨ ∃ k, b' ≤ k ∧ k < b ∧ dv = .rowp k 1 false df.length ∧ h[k]? = some (.cells (df.map PV.str))
def Holds (h : List PObj) : Nat → PV → List Fr → Prop
 | b, v, [] => v = .nilptr
 | b, v, f :: fs => ∃ (b' n o d : Nat) (i dv up : PV), v = .ptr n 0 ∧ b' ≤ n ∧ b' ≤ o ∧ b' ≤ d ∧ n < b ∧ o < b ∧ d < b ∧ n ≠ o ∧ n ≠ d ∧ o ≠ d ∧ 4 ≤ b' ∧ h[n]? = some (.cells [up, .map (some o), .map (some d), i, dv]) ∧ h[o]? = some (.map (bmE f.O)) ∧ h[d]? = some (.map (bmE f.D)) ∧
   ((i = .map none ∧ f.I = []) ∨ ∃ m, i = .map (some m) ∧ b' ≤ m ∧ m < b ∧ m ≠ n ∧ m ≠ o ∧ m ≠ d ∧ h[m]? = some (.map (bmE f.I))) ∧ RowAt h b' b dv f.df ∧ (∀ k s a len, dv = .rowp k s a len → k ≠ n ∧ k ≠ o ∧ k ≠ d ∧ i ≠ .map (some k)) ∧ Holds h b' up fs
theorem Holds.keep {h h' : List PObj} : ∀ {fs : List Fr} {b : Nat} {v : PV}, Holds h b v fs → (∀ n, n < b → h'[n]? = h[n]?) → Holds h' b v fs
 | [], b, v, hh, _ => hh
 | f :: fs, b, v, hh, hk => by
   obtain ⟨b', n, o, d, i, dv, up, h1, h2, h3, h4, h5, h6, h7, h8, h9, h10, h4b, h11, h12, h13, h14, h15, h16, h17⟩ := hh
   refine ⟨b', n, o, d, i, dv, up, h1, h2, h3, h4, h5, h6, h7, h8, h9, h10, h4b, (hk _ h5).trans h11, (hk _ h6).trans h12, (hk _ h7).trans h13, ?_, ?_, h16, h17.keep fun k hk' => hk k (by omega)⟩
   ·rcases h14 with h | ⟨m, e1, e2, e3, e4, e5, e6, e7⟩
    ·exact .inl h
    ·exact .inr ⟨m, e1, e2, e3, e4, e5, e6, (hk _ e3).trans e7⟩
   ·rcases h15 with h | ⟨k, e1, e2, e3, e4⟩
    ·exact .inl h
    ·exact .inr ⟨k, e1, e2, e3, (hk _ e2).trans e4⟩
theorem Holds.up {h : List PObj} : ∀ {fs : List Fr} {b c : Nat} {v : PV}, Holds h b v fs → b ≤ c → Holds h c v fs
 | [], b, c, v, hh, _ => hh
 | f :: fs, b, c, v, hh, hk => by
   obtain ⟨b', n, o, d, i, dv, up, h1, h2, h3, h4, h5, h6, h7, h8, h9, h10, h4b, h11, h12, h13, h14, h15, h16, h17⟩ := hh
   refine ⟨b', n, o, d, i, dv, up, h1, h2, h3, h4, by omega, by omega, by omega, h8, h9, h10, h4b, h11, h12, h13, ?_, ?_, h16, h17⟩
   ·rcases h14 with h | ⟨m, e1, e2, e3, e4, e5, e6, e7⟩
    ·exact .inl h
    ·exact .inr ⟨m, e1, e2, by omega, e4, e5, e6, e7⟩
   ·rcases h15 with h | ⟨k, e1, e2, e3, e4⟩
    ·exact .inl h
    ·exact .inr ⟨k, e1, by omega, e3, e4⟩
theorem Holds.ptr {h : List PObj} {fs : List Fr} {b : Nat} {v : PV} (hv : Holds h b v fs) : v = .nilptr ∨ ∃ n, v = .ptr n 0 := by
 cases fs with
 | nil => exact .inl hv
 | cons f fs => obtain ⟨_, n, _, _, _, _, _, e, _⟩ := hv; exact .inr ⟨n, e⟩
theorem Holds.cp {h : List PObj} {fs : List Fr} {b : Nat} {v : PV} (hv : Holds h b v fs) : cp v = some v := by rcases hv.ptr with rfl | ⟨n, rfl⟩ <;> rfl
theorem Holds.tkv {h : List PObj} {fs : List Fr} {b : Nat} {v : PV} (hv : Holds h b v fs) : tkv v = some (v, false) := by rcases hv.ptr with rfl | ⟨n, rfl⟩ <;> rfl
theorem Holds.dem {h : List PObj} {fs : List Fr} {b : Nat} {v : PV} (hv : Holds h b v fs) : dem v = v := by rcases hv.ptr with rfl | ⟨n, rfl⟩ <;> rfl
end PI.Sc
set_option maxRecDepth 100000
set_option linter.unusedSimpArgs false
set_option linter.unusedVariables false
namespace PI.Sc
open Go (IntKind BinOp UnOp)
open Short
structure TopAt (h : List PObj) (b b' n o d : Nat) (i dv up : PV) (f : Fr) (fs : List Fr) : Prop where
 ln : b' ≤ n
 lo : b' ≤ o
 ld : b' ≤ d
 un : n < b
 uo : o < b
 ud : d < b
 no : n ≠ o
 nd : n ≠ d
 od : o ≠ d
 four : 4 ≤ b'
 hn : h[n]? = some (.cells [up, .map (some o), .map (some d), i, dv])
 ho : h[o]? = some (.map (bmE f.O))
 hd : h[d]? = some (.map (bmE f.D))
 hi : (i = .map none ∧ f.I = []) ∨ ∃ m, i = .map (some m) ∧ b' ≤ m ∧ m < b ∧ m ≠ n ∧ m ≠ o ∧ m ≠ d ∧ h[m]? = some (.map (bmE f.I))
 row : RowAt h b' b dv f.df
 rne : ∀ k s a len, dv = .rowp k s a len → k ≠ n ∧ k ≠ o ∧ k ≠ d ∧ i ≠ .map (some k)
 hup : Holds h b' up fs
section
variable {h h' : List PObj} {b b' n o d : Nat} {i dv up : PV} {f : Fr} {fs : List Fr}
theorem TopAt.keep (t : TopAt h b b' n o d i dv up f fs) (hk : ∀ n, n < b → h'[n]? = h[n]?) : TopAt h' b b' n o d i dv up f fs where
 ln := t.ln
 lo := t.lo
 ld := t.ld
 un := t.un
 uo := t.uo
 ud := t.ud
 no := t.no
 nd := t.nd
 od := t.od
 four := t.four
 hn := (hk _ t.un).trans t.hn
 ho := (hk _ t.uo).trans t.ho
 hd := (hk _ t.ud).trans t.hd
 hi := by
  rcases t.hi with h | ⟨m, e1, e2, e3, e4, e5, e6, e7⟩
  ·exact .inl h
  ·exact .inr ⟨m, e1, e2, e3, e4, e5, e6, (hk _ e3).trans e7⟩
 row := by
  rcases t.row with h | ⟨k, e1, e2, e3, e4⟩
  ·exact .inl h
  ·exact .inr ⟨k, e1, e2, e3, (hk _ e2).trans e4⟩
 rne := t.rne
 hup := t.hup.keep fun k hk' => hk k (by have := t.ln; have := t.un; omega)
end
end PI.Sc
set_option maxRecDepth 100000
set_option linter.unusedSimpArgs false
set_option linter.unusedVariables false
namespace PI.Sc
open Go (IntKind BinOp UnOp)
open Short
section
variable {L : Nat → Option PFunc} (hL : ∀ k f, LS k = some f → L k = some f) (en : List Enum) (ns : List Node) (a b : Int) (ents : Ents)
include hL
omit hL in
end
end PI.Sc
set_option maxRecDepth 100000
set_option linter.unusedSimpArgs false
set_option linter.unusedVariables false
namespace PI.Sc
open Go (IntKind BinOp UnOp)
open Short
end PI.Sc
set_option maxRecDepth 100000
set_option linter.unusedSimpArgs false
set_option linter.unusedVariables false
namespace PI.Sc
open Go (IntKind BinOp UnOp)
open Short
section
variable {h h' : List PObj} {b b' n o d : Nat} {i dv up : PV} {f : Fr} {fs : List Fr}
theorem Fr.same {f : Fr} (h : f.D = f.df) : ({ f with D := f.df, df := f.df } : Fr) = f := by cases f; simp at h ⊢; exact h.symm
theorem TopAt.push (t : TopAt h h.length b' n o d i dv up f fs) (df : List Str) (h1 : List PObj) (h1l : h1.length = h.length) (hk : ∀ k, k < b' → h1[k]? = h[k]?) (hk2 : ∀ k, b' ≤ k → (∀ s a len, dv ≠ .rowp k s a len) → k ≠ n → h1[k]? = h[k]?) :
  TopAt ((h1 ++ [PObj.cells (df.map PV.str)]).set n (.cells [up, .map (some o), .map (some d), i, .rowp h.length 1 false df.length])) (h.length + 1) b' n o d i (.rowp h.length 1 false df.length) up { f with df := df } fs := by
 have hun := t.un
 have hln := t.ln
 have key : ∀ k, k < h.length → k ≠ n → (h1[k]? = h[k]?) → ((h1 ++ [PObj.cells (df.map PV.str)]).set n (.cells [up, .map (some o), .map (some d), i, .rowp h.length 1 false df.length]))[k]? = h[k]? := by
  intro k hkl hkn hh
  rw [List.getElem?_set_ne (Ne.symm hkn), List.getElem?_append_left (by omega)]
  exact hh
 refine ⟨t.ln, t.lo, t.ld, by omega, by have := t.uo; omega, by have := t.ud; omega, t.no, t.nd, t.od, t.four, ?_, ?_, ?_, ?_, ?_, ?_, ?_⟩
 ·rw [List.getElem?_set_self (by simp; omega)]
 ·rw [key o t.uo (Ne.symm t.no) (hk2 o t.lo (fun s a len e => (t.rne _ _ _ _ e).2.1 rfl) (Ne.symm t.no))]
  exact t.ho
 ·rw [key d t.ud (Ne.symm t.nd) (hk2 d t.ld (fun s a len e => (t.rne _ _ _ _ e).2.2.1 rfl) (Ne.symm t.nd))]
  exact t.hd
 ·rcases t.hi with h | ⟨m, e1, e2, e3, e4, e5, e6, e7⟩
  ·exact .inl h
  ·refine .inr ⟨m, e1, e2, by omega, e4, e5, e6, ?_⟩
   rw [key m e3 e4 (hk2 m e2 (fun s a len e => (t.rne _ _ _ _ e).2.2.2 e1) e4)]
   exact e7
 ·refine .inr ⟨h.length, by omega, by omega, rfl, ?_⟩
  rw [List.getElem?_set_ne (by omega), ← h1l]
  simp
 ·intro k s a len e
  simp only [PV.rowp.injEq] at e
  obtain ⟨rfl, _⟩ := e
  have := t.uo
  have := t.ud
  refine ⟨by omega, by omega, by omega, ?_⟩
  rcases t.hi with ⟨h1, _⟩ | ⟨m, e1, e2, e3, _⟩
  ·rw [h1]; simp
  ·rw [e1]; simp; omega
 ·refine t.hup.keep fun k hk' => ?_
  rw [key k (by omega) (by omega) (hk k hk')]
end
end PI.Sc
set_option maxRecDepth 100000
set_option linter.unusedSimpArgs false
set_option linter.unusedVariables false
namespace PI.Sc
open Go (IntKind BinOp UnOp)
open Short
def idxI {α : Type} (P : α → Bool) (l : List α) : Int := match l.findIdx? P with
 | none => -1
 | some i => i
theorem idxI_at {α : Type} {P : α → Bool} {l : List α} {j : Nat} (hj : j < l.length) (hp : P l[j] = true) (hn : ∀ i (hi : i < l.length), i < j → P l[i] = false) : idxI P l = j := by
 have : l.findIdx? P = some j := by
  rw [List.findIdx?_eq_some_iff_getElem]
  exact ⟨hj, hp, fun i hi => by simpa using hn i (by omega) hi⟩
 simp [idxI, this]
theorem idxI_none {α : Type} {P : α → Bool} {l : List α} (hn : ∀ i (hi : i < l.length), P l[i] = false) : idxI P l = -1 := by
 have : l.findIdx? P = none := by
  rw [List.findIdx?_eq_none_iff]
  intro x hx
  obtain ⟨i, hi, rfl⟩ := List.mem_iff_getElem.1 hx
  exact hn i hi
 simp [idxI, this]
theorem idxI_any {α : Type} (P : α → Bool) (l : List α) : decide (0 ≤ idxI P l) = l.any P := by
 unfold idxI
 cases h : l.findIdx? P with
 | none =>
   rw [List.findIdx?_eq_none_iff] at h
   symm
   simp only [show ¬ (0 : Int) ≤ -1 by decide, decide_false]
   rw [List.any_eq_false]
   intro x hx; simp [h x hx]
 | some i =>
   have := List.findIdx?_eq_some_iff_getElem.1 h
   obtain ⟨h1, h2, _⟩ := this
   simp only [show (0 : Int) ≤ (i : Int) by omega, decide_true]
   symm
   rw [List.any_eq_true]
   exact ⟨_, List.getElem_mem h1, h2⟩
end PI.Sc
set_option maxRecDepth 100000
set_option linter.unusedSimpArgs false
set_option linter.unusedVariables false
namespace PI.Sc
open Go (IntKind BinOp UnOp)
open Short
end PI.Sc
set_option maxRecDepth 100000
set_option linter.unusedSimpArgs false
set_option linter.unusedVariables false
namespace PI.Sc
open Go (IntKind BinOp UnOp)
open Short
def eNats (l : List Nat) : List PV := l.map fun n : Nat => .int .i64 n
def callsAt (p : Prog) (i : Int) : List Nat := if 0 ≤ i ∧ i < p.nodes.length then calls p.nodes (p.nodes.getD i.toNat default) else []
def cnames (l : List Expr) : List Str := (l.filter fun e => decide (e.kind = 10)).map (·.name)
theorem cnames_app (a b : List Expr) : cnames (a ++ b) = cnames a ++ cnames b := by simp [cnames]
theorem cnames_len (l : List Expr) : (cnames l).length ≤ l.length := by unfold cnames; rw [List.length_map]; exact List.length_filter_le _ _
theorem called_eq (n : Node) : called n = cnames ((nodeExprs n).flatMap Expr.list) := rfl
theorem flat_parts (l : List Expr) : (l.flatMap Expr.list).length = total Expr.parts l := by
 induction l with
 | nil => rfl
 | cons x l ih => simp only [List.flatMap_cons, List.length_append, total, ih]; rfl
def callsTo (ns : List Node) (c : List Str) (k : Nat) : List Nat := (List.range k).filter fun i => decide (find ns (ns.getD i default).name = some i ∧ (ns.getD i default).name ∈ c)
theorem callsTo_succ (ns : List Node) (c : List Str) (k : Nat) : callsTo ns c (k + 1) = callsTo ns c k ++ if find ns (ns.getD k default).name = some k ∧ (ns.getD k default).name ∈ c then [k] else [] := by
 unfold callsTo
 rw [List.range_succ, List.filter_append]
 congr 1
 by_cases h : find ns (ns.getD k default).name = some k ∧ (ns.getD k default).name ∈ c
 ·rw [if_pos h]; simp only [List.filter_cons, h, and_self, decide_true, if_true, List.filter_nil]
 ·rw [if_neg h]; simp only [List.filter_cons, h, decide_false, Bool.false_eq_true, if_false, List.filter_nil]
theorem callsTo_len (ns : List Node) (c : List Str) (k : Nat) : (callsTo ns c k).length ≤ k := by
 have := List.length_filter_le (fun i => decide (find ns (ns.getD i default).name = some i ∧ (ns.getD i default).name ∈ c)) (List.range k)
 simpa [callsTo] using this
theorem find_here (ns : List Node) (k : Nat) (hk : k < ns.length) : find ns ns[k].name ≠ none := by
 intro h
 unfold find at h
 rw [List.findIdx?_eq_none_iff] at h
 have := h ns[k] (List.getElem_mem hk)
 simp at this
section
variable {L : Nat → Option PFunc} (hL : ∀ k f, LS k = some f → L k = some f)
include hL
theorem ref_calls (p : Prog) (hn : ∀ n ∈ p.nodes, NW n ∧ n.parts ≤ 1500) (hl : p.nodes.length ≤ 1500) (i : Int) (h : List PObj) : ∃ o, callL L 18 [eProg p, .int .i64 i] h = some (.list o (eNats (callsAt p i)), h) := by
 by_cases h0 : i < 0
 ·have hc : callsAt p i = [] := by unfold callsAt; rw [if_neg (by omega)]
  refine ⟨true, ?_⟩
  refine callL_wp (hL 18 _ rfl) rfl ?_
  rw [hc]
  simp [f_ref10_Calls, h0, eNats]
 by_cases h1 : (p.nodes.length : Int) ≤ i
 ·have hc : callsAt p i = [] := by unfold callsAt; rw [if_neg (by omega)]
  refine ⟨true, ?_⟩
  refine callL_wp (hL 18 _ rfl) rfl ?_
  rw [hc]
  simp [f_ref10_Calls, h0, h1, eNats]
 refine ⟨false, ?_⟩
 refine callL_wp (hL 18 _ rfl) rfl ?_
 obtain ⟨k, rfl⟩ : ∃ k : Nat, i = k := ⟨i.toNat, by omega⟩
 have hk : k < p.nodes.length := by omega
 obtain ⟨N, hN⟩ : ∃ N, N = p.nodes[k] := ⟨_, rfl⟩
 have hc : callsAt p k = callsTo p.nodes (called N) p.nodes.length := by
  unfold callsAt
  rw [if_pos (by omega)]
  have : p.nodes.getD (k : Int).toNat default = N := by simp [List.getD, hk, hN]
  rw [this]; rfl
 rw [hc]
 have hNW := hn _ (List.getElem_mem hk)
 rw [← hN] at hNW
 have hx := ref_exprs hL N hNW.1 hNW.2 []
 have hme : ∀ e ∈ nodeExprs N, e.parts ≤ 1500 := fun e he => Nat.le_trans (nodeExprs_mem he) hNW.2
 have htp := nodeExprs_parts N
 have hle := nodeExprs_len N
 rw [called_eq]
 obtain ⟨X, hX⟩ : ∃ X, X = nodeExprs N := ⟨_, rfl⟩
 rw [← hX] at hx hme htp hle ⊢
 simp [f_ref10_Calls, h0, h1, hk, ← hN, hx]
 refine loop_rel X.length (fun j st => ∃ y7 y8, st = ⟨[eProg p, .int .i64 k, .loc 0 (eProg p).cells, .list true [], .list true ((cnames ((X.take j).flatMap Expr.list)).map .str), .list false (X.map eExpr), .int .i64 j, y7, y8, .dead, .dead, .dead], [], 1, h⟩) ?_ ?_ ⟨_, _, by simp [cnames]; exact ⟨rfl, rfl⟩⟩
 ·rintro j hj st ⟨y7, y8, rfl⟩ ih
  have hw := wrap_succ j (by omega)
  have hls := ref_List hL X[j] (hme _ (List.getElem_mem hj)) []
  have hb := total_le Expr.parts X (j + 1)
  rw [← flat_parts, take_snoc hj, List.flatMap_append, List.flatMap_singleton, List.length_append] at hb
  rw [take_snoc hj, List.flatMap_append, List.flatMap_singleton] at ih
  obtain ⟨A, hA⟩ : ∃ A, A = (X.take j).flatMap Expr.list := ⟨_, rfl⟩
  obtain ⟨M, hM⟩ : ∃ M, M = X[j].list := ⟨_, rfl⟩
  rw [← hA, ← hM] at hb ih
  rw [← hM] at hls
  rw [← hA]
  have hMl : M.length ≤ 1500 := by rw [hM]; exact hme _ (List.getElem_mem hj)
  simp [hj, hls]
  refine loop_go M.length (fun i (_ : Unit) => [(4, .list true ((cnames (A ++ M.take i)).map .str)), (8, .int .i64 i)]) (fun _ _ => h) () ?_ ?_ (by simp) rfl
  ·intro i hi _ ih3
   have hw := wrap_succ i (by omega)
   have ih3 := ih3 ()
   rw [take_snoc hi, ← List.append_assoc, cnames_app] at ih3
   have hlen := cnames_len (A ++ M.take i)
   simp only [List.length_append, List.length_take] at hlen
   generalize cnames (A ++ M.take i) = z at *
   have hlen2 : z.length + 1 ≤ 2147483648 := by omega
   by_cases hk : M[i].kind = 10
   ·have hz : cnames [M[i]] = [M[i].name] := by simp [cnames, hk]
    rw [hz] at ih3
    simp [hi, hw, hk, hlen2]
    simpa using ih3
   ·have hz : cnames [M[i]] = [] := by simp [cnames, hk]
    rw [hz, List.append_nil] at ih3
    simp [hi, hw, hk]
    simpa using ih3
  ·intro _
   simp [hw]
   exact ih _ ⟨_, _, rfl⟩
 ·rintro st ⟨y7, y8, rfl⟩
  rw [List.take_length]
  obtain ⟨C, hC⟩ : ∃ C, C = cnames (X.flatMap Expr.list) := ⟨_, rfl⟩
  have hCl : C.length ≤ 1500 := by
   have := cnames_len (X.flatMap Expr.list)
   rw [flat_parts] at this
   rw [hC]; omega
  rw [← hC]
  simp
  refine loop_rel p.nodes.length (fun j st => ∃ y11, st = ⟨[eProg p, .int .i64 k, .loc 0 (eProg p).cells, .list true [], .list true (C.map .str), .list false (X.map eExpr), .int .i64 X.length, y7, y8, .list true (eNats (callsTo p.nodes C j)), .int .i64 j, y11], [], 1, h⟩) ?_ ?_ ⟨_, by simp [callsTo, eNats]; rfl⟩
  ·rintro j hj st ⟨y11, rfl⟩ ih
   have hw := wrap_succ j (by omega)
   have hnm : (p.nodes.getD j default).name = p.nodes[j].name := by simp [List.getD, hj]
   have hf := ref_find hL p hl p.nodes[j].name []
   have hh := ref_has' hL C (by omega) p.nodes[j].name false []
   have hfh := find_here p.nodes j hj
   have hlen := callsTo_len p.nodes C j
   rw [callsTo_succ, hnm] at ih
   obtain ⟨Z, hZ⟩ : ∃ Z, Z = callsTo p.nodes C j := ⟨_, rfl⟩
   rw [← hZ] at ih hlen ⊢
   have hl2 : (eNats Z).length + 1 ≤ 2147483648 := by simp [eNats]; omega
   have hhd : headOk 1 (eNats Z) = true := by cases Z <;> simp [eNats]
   have hap : eNats Z ++ [.int .i64 (j : Int)] = eNats (Z ++ [j]) := by simp [eNats]
   cases hF : find p.nodes p.nodes[j].name with
   | none => exact absurd hF hfh
   | some m =>
     rw [hF] at hf ih
     simp at hf
     by_cases hmj : m = j
     ·subst hmj
      by_cases hin : p.nodes[m].name ∈ C
      ·simp [hin] at hh ih
       simp [hj, hw, hf, hh, hl2, hhd, hap]
       exact ih _
      ·simp [hin] at hh ih
       simp [hj, hw, hf, hh]
       exact ih _
     ·have hmi : ¬ ((m : Int) = (j : Int)) := by omega
      simp [hmj] at ih
      simp [hj, hw, hf, hmi, hmj]
      exact ih _
  ·rintro st ⟨y11, rfl⟩
   simp
end
end PI.Sc
set_option maxRecDepth 100000
set_option linter.unusedSimpArgs false
set_option linter.unusedVariables false
namespace PI.Sc
open Go (IntKind BinOp UnOp)
open Short
def BoxRow (h : List PObj) (n : Nat) (l : List Str) : Prop := ∃ rv, h[n]? = some (.cells [rv]) ∧ ((rv = .nils ∧ l = []) ∨ ∃ k, k ≠ n ∧ rv = .rowp k 1 false l.length ∧ h[k]? = some (.cells (l.map PV.str)))
section
variable {L : Nat → Option PFunc} (hL : ∀ k f, LS k = some f → L k = some f)
include hL
theorem has_nils (s : Str) (h : List PObj) : callL L 110 [.nils, .str s] h = some (.bool false, h) := by
 have hi : callL L 139 [.nils, .str s] h = some (.int .i64 (-1), h) := by
  refine callL_wp (hL 139 _ rfl) rfl ?_
  simp [f_slices_Index_string]
  rw [f_slices_Index_string_l0, wpL_loop]
  simp [f_slices_Index_string]
 refine callL_wp (hL 110 _ rfl) rfl ?_
 simp [f_slices_Contains_string, hi]
theorem has_rowp (l : List Str) (hl : l.length ≤ 2000000000) (n : Nat) (s : Str) (h : List PObj) (hn : h[n]? = some (.cells (l.map PV.str))) : callL L 110 [.rowp n 1 false l.length, .str s] h = some (.bool (decide (s ∈ l)), h) := by
 obtain ⟨P, hP⟩ : ∃ P : Str → Bool, ∀ x, P x = decide (x = s) := ⟨_, fun _ => rfl⟩
 have hi : callL L 139 [.rowp n 1 false l.length, .str s] h = some (.int .i64 (idxI P l), h) := by
  refine callL_wp (hL 139 _ rfl) rfl ?_
  simp [f_slices_Index_string]
  rw [f_slices_Index_string_l0]
  refine loop_rel l.length (fun j st => ∃ y3, st = ⟨[.rowp n 1 false l.length, .str s, .int .i64 0, y3, .int .i64 l.length, .int .i64 j], [], 0, h⟩ ∧ ∀ i (hi : i < l.length), i < j → P l[i] = false) ?_ ?_ ⟨_, rfl, fun i _ hi => by omega⟩
  ·rintro j hj st ⟨y3, rfl, hnn⟩ ih
   have hw := wrap_succ j (by omega)
   by_cases hp : l[j] = s
   ·have hp' : s = l[j] := hp.symm
    have hpp : P l[j] = true := by rw [hP]; simpa using hp
    simp [hj, hw, hn, tf hp, tf hp', idxI_at hj hpp hnn]
   ·have hp' : ¬ s = l[j] := fun e => hp e.symm
    have hpp : P l[j] = false := by rw [hP]; simpa using hp
    simp [hj, hw, hn, tf hp, tf hp']
    refine ih _ ⟨_, rfl, fun i hi hij => ?_⟩
    by_cases he : i = j
    ·subst he; exact hpp
    ·exact hnn i hi (by omega)
  ·rintro st ⟨y3, rfl, hnn⟩
   simp [f_slices_Index_string, idxI_none (fun i hi => hnn i hi hi)]
 have ha : decide (s ∈ l) = l.any P := by
  rw [Bool.eq_iff_iff, decide_eq_true_eq, List.any_eq_true]
  constructor
  ·intro hm; exact ⟨s, hm, by rw [hP]; simp⟩
  ·rintro ⟨x, hm, hx⟩; rw [hP] at hx; simp at hx; subst hx; exact hm
 rw [ha]
 refine callL_wp (hL 110 _ rfl) rfl ?_
 simp [f_slices_Contains_string, hi, ← idxI_any]
theorem sc_put (h : List PObj) (n : Nat) (l : List Str) (hb : BoxRow h n l) (hl : l.length ≤ 2000000) (s : Str) : ∃ h', callL L 75 [.str s, .ptr n 0] h = some (.tuple [], h') ∧ BoxRow h' n (putB l s) := by
 suffices H : ∃ r, callL L 75 [.str s, .ptr n 0] h = some r ∧ r.1 = .tuple [] ∧ BoxRow r.2 n (putB l s) by
  obtain ⟨⟨v, h'⟩, h1, h2, h3⟩ := H
  simp only at h2; subst h2
  exact ⟨h', h1, h3⟩
 refine callL_wpP (hL 75 _ rfl) rfl ?_
 obtain ⟨rv, hn, hr⟩ := hb
 have hlt : n < h.length := (List.getElem?_eq_some_iff.1 hn).1
 rcases hr with ⟨rfl, rfl⟩ | ⟨k, hkn, rfl, hk⟩
 ·have hc := has_nils hL s h
  have e4 : (h ++ [PObj.cells [PV.str s]])[n]? = some (.cells [.nils]) := by rw [List.getElem?_append_left hlt]; exact hn
  simp [f_scope_defined_1, hn, hc, happv, e4, headOk, storeInto, endP, resultV, resultsOf, shutRes]
  refine ⟨.rowp h.length 1 false 1, by simp [List.getElem?_append, hlt], .inr ⟨h.length, by omega, rfl, ?_⟩⟩
  rw [List.getElem?_set_ne (by omega)]
  simp [putB]
 ·have hc := has_rowp hL l (by omega) k s h hk
  by_cases hs : s ∈ l
  ·simp [hs] at hc
   simp [f_scope_defined_1, hn, hc, endP, resultV, resultsOf, shutRes, putB, hs]
   exact ⟨_, hn, .inr ⟨k, hkn, rfl, hk⟩⟩
  ·simp [hs] at hc
   have hb1 : l.length + 1 ≤ 2147483648 := by omega
   have e4 : ∀ X, (h.set k .gone ++ [X])[n]? = some (.cells [.rowp k 1 false l.length]) := fun X => by
    rw [List.getElem?_append_left (by simpa using hlt), List.getElem?_set_ne hkn]; exact hn
   have htk : List.take l.length (l.map PV.str) = l.map PV.str := List.take_of_length_le (by simp)
   have hdm : List.map (dem ∘ PV.str) l = l.map PV.str := List.map_congr_left fun _ _ => rfl
   simp [f_scope_defined_1, hn, hc, happv, hk, e4, hb1, hdm, headOk, storeInto, endP, resultV, resultsOf, shutRes, putB, hs]
   refine ⟨.rowp h.length 1 false (l.length + 1), by simp [List.getElem?_append, hlt], .inr ⟨h.length, by omega, by simp, ?_⟩⟩
   rw [List.getElem?_set_ne (by omega), List.getElem?_append_right (by simp)]
   simp [htk]
theorem any_decl (l : List Decl) (hl : l.length ≤ 2000000000) (o : Bool) (s : Str) (h : List PObj) : callL L 76 [.list o (l.map eDecl), .func 77 [] [.cptr [.str s]]] h = some (.bool (decide (s ∈ dnames l)), h) := by
 obtain ⟨P, hP⟩ : ∃ P : Decl → Bool, ∀ x, P x = decide (x.name = s) := ⟨_, fun _ => rfl⟩
 have hcall : ∀ x : Decl, callL L 77 [eDecl x, .cptr [.str s]] h = some (.bool (P x), h) := by
  intro x
  refine callL_wp (hL 77 _ rfl) rfl ?_
  rw [hP]
  simp [f_scope_defined_2]
 have hi : callL L 111 [.list false (l.map eDecl), .func 77 [] [.cptr [.str s]]] h = some (.int .i64 (idxI P l), h) := by
  refine callL_wp (hL 111 _ rfl) rfl ?_
  simp [f_slices_IndexFunc_api_Decl]
  rw [f_slices_IndexFunc_api_Decl_l0]
  refine loop_rel l.length (fun j st => ∃ y3, st = ⟨[.list false (l.map eDecl), .func 77 [] [.cptr [.str s]], .int .i64 0, y3, .int .i64 l.length, .int .i64 j], [], 0, h⟩ ∧ ∀ i (hi : i < l.length), i < j → P l[i] = false) ?_ ?_ ⟨_, rfl, fun i _ hi => by omega⟩
  ·rintro j hj st ⟨y3, rfl, hn⟩ ih
   have hw := wrap_succ j (by omega)
   have hc := hcall l[j]
   cases hp : P l[j] with
   | true =>
     rw [hp] at hc
     simp [hj, hc, hw, idxI_at hj hp hn]
   | false =>
     rw [hp] at hc
     simp [hj, hc, hw]
     refine ih _ ⟨_, rfl, fun i hi hij => ?_⟩
     by_cases he : i = j
     ·subst he; exact hp
     ·exact hn i hi (by omega)
  ·rintro st ⟨y3, rfl, hn⟩
   simp [f_slices_IndexFunc_api_Decl, idxI_none (fun i hi => hn i hi hi)]
 have ha : decide (s ∈ dnames l) = l.any P := by
  rw [Bool.eq_iff_iff, decide_eq_true_eq, List.any_eq_true]
  unfold dnames
  rw [List.mem_map]
  constructor
  ·rintro ⟨x, hm, rfl⟩; exact ⟨x, hm, by rw [hP]; simp⟩
  ·rintro ⟨x, hm, hx⟩; rw [hP] at hx; simp at hx; exact ⟨x, hm, hx⟩
 rw [ha]
 refine callL_wp (hL 76 _ rfl) rfl ?_
 simp [f_slices_ContainsFunc_api_Decl, hi, ← idxI_any]
end
end PI.Sc
set_option maxRecDepth 100000
set_option linter.unusedSimpArgs false
set_option linter.unusedVariables false
namespace PI.Sc
open Go (IntKind BinOp UnOp)
open Short
end PI.Sc
set_option maxRecDepth 100000
set_option linter.unusedSimpArgs false
set_option linter.unusedVariables false
namespace PI.Sc
open Go (IntKind BinOp UnOp)
open Short
end PI.Sc
set_option maxRecDepth 100000
set_option linter.unusedSimpArgs false
set_option linter.unusedVariables false
namespace PI.Sc
open Go (IntKind BinOp UnOp)
open Short
theorem rowEls_str (l : List Str) : rowEls 1 false (l.map PV.str) l.length 0 = some (l.map PV.str) := by
 suffices H : ∀ (n off : Nat), off + n = l.length → rowEls 1 false (l.map PV.str) n off = some ((l.drop off).map PV.str) by simpa using H l.length 0 (by omega)
 intro n
 induction n with
 | zero => intro off h; rw [List.drop_eq_nil_of_le (by omega)]; rfl
 | succ n ih =>
   intro off h
   have ho : off < l.length := by omega
   simp only [rowEls, ih (off + 1) (by omega)]
   simp [loadFrom, ho]
   rw [List.drop_eq_getElem_cons (i := off) (l := l.map PV.str) (by simpa using ho)]
   simp
section
variable {L : Nat → Option PFunc} (hL : ∀ k f, LS k = some f → L k = some f) (en : List Enum) (ns : List Node) (a b : Int) (ents : Ents)
include hL
def StOut (a b : Int) (e : EN) (r : Out) : Prop := if e.1 = 0 then ∃ o, r = .val (.list o (e.2.map PV.str)) else r = .boom (badS 1 a b e.1)
omit hL in
theorem StOut.no {e : EN} {z : Int} (hz : z ≠ 0) (he : e = (z, [])) : StOut a b e (.boom (badS 1 a b z)) := by
 unfold StOut; rw [he, if_neg hz]
end
end PI.Sc
set_option maxRecDepth 100000
set_option linter.unusedSimpArgs false
set_option linter.unusedVariables false
namespace PI.Sc
open Go (IntKind BinOp UnOp)
open Short
section
variable {L : Nat → Option PFunc} (hL : ∀ k f, LS k = some f → L k = some f)
include hL
theorem sc_defd_l0 (l : List Str) (hl : l.length ≤ 1500) (z : List Str) (hz : z.length + l.length ≤ 1000000) (V0 V1 V2 V4 V6 V7 V8 V9 V10 V11 V12 V13 V17 V18 V19 V20 V21 V22 : PV) (g : Nat) (h : List PObj) (hb : BoxRow h 0 z) {Q : PExit → St → Prop}
  (ok : ∀ y7 h', BoxRow h' 0 (putAll z l) → Q (.exit 2) ⟨[V0, V1, V2, .ptr 0 0, V4, .func 75 [] [.ptr 0 0], V6, y7, V8, V9, V10, V11, V12, V13, .list false (l.map .str), .int .i64 l.length, .int .i64 l.length, V17, V18, V19, V20, V21, V22], [], g, h'⟩) :
  wpL L f_scope_defined_l0 ⟨[V0, V1, V2, .ptr 0 0, V4, .func 75 [] [.ptr 0 0], V6, V7, V8, V9, V10, V11, V12, V13, .list false (l.map .str), .int .i64 l.length, .int .i64 0, V17, V18, V19, V20, V21, V22], [], g, h⟩ Q := by
 rw [f_scope_defined_l0]
 refine loop_rel l.length (fun i st => ∃ y7 h', st = ⟨[V0, V1, V2, .ptr 0 0, V4, .func 75 [] [.ptr 0 0], V6, y7, V8, V9, V10, V11, V12, V13, .list false (l.map .str), .int .i64 l.length, .int .i64 i, V17, V18, V19, V20, V21, V22], [], g, h'⟩ ∧ BoxRow h' 0 (putAll z (l.take i))) ?_ ?_ ⟨_, h, rfl, by simpa [putAll] using hb⟩
 ·rintro i hi st ⟨y7, h', rfl, hb⟩ ih
  have hw := wrap_succ i (by omega)
  have hlen := putAll_len z (l.take i)
  simp only [List.length_take] at hlen
  obtain ⟨h2, hc, hb2⟩ := sc_put hL h' 0 _ hb (by omega) l[i]
  simp [hi, hw, hc]
  refine ih _ ⟨_, h2, rfl, ?_⟩
  rw [take_snoc hi, putAll_app]
  exact hb2
 ·rintro st ⟨y7, h', rfl, hb⟩
  rw [List.take_length] at hb
  simp
  exact ok _ _ hb
theorem sc_defd_l2 (l : List Str) (hl : l.length ≤ 1500) (x : State) (hx : x.locals.length ≤ 1500) (z : List Str) (hz : z.length + l.length ≤ 1000000) (V0 V1 V2 V4 V6 V7 V8 V10 V11 V12 V13 V14 V15 V16 V17 V18 V19 : PV) (g gs : Nat) (h : List PObj) (hb : BoxRow h 0 z) {Q : PExit → St → Prop}
  (ok : ∀ y10 g h', BoxRow h' 0 (putAll z (without l (dnames x.locals))) → Q (.exit 6) ⟨[V0, V1, V2, .ptr 0 0, V4, .func 75 [] [.ptr 0 0], V6, V7, V8, .loc gs [.str x.name, .list false (x.locals.map eDecl), .list false (x.eqs.map eEqn), .list false (x.autos.map eAuto), .list false (x.unl.map eTrn), .list false (x.til.map eTrn)], y10, V11, V12, V13, V14, V15, V16, V17, V18, V19, .list false (l.map .str), .int .i64 l.length, .int .i64 l.length], [], g, h'⟩) :
  wpL L f_scope_defined_l2 ⟨[V0, V1, V2, .ptr 0 0, V4, .func 75 [] [.ptr 0 0], V6, V7, V8, .loc gs [.str x.name, .list false (x.locals.map eDecl), .list false (x.eqs.map eEqn), .list false (x.autos.map eAuto), .list false (x.unl.map eTrn), .list false (x.til.map eTrn)], V10, V11, V12, V13, V14, V15, V16, V17, V18, V19, .list false (l.map .str), .int .i64 l.length, .int .i64 0], [], g, h⟩ Q := by
 rw [f_scope_defined_l2]
 refine loop_rel l.length (fun i st => ∃ y10 g h', st = ⟨[V0, V1, V2, .ptr 0 0, V4, .func 75 [] [.ptr 0 0], V6, V7, V8, .loc gs [.str x.name, .list false (x.locals.map eDecl), .list false (x.eqs.map eEqn), .list false (x.autos.map eAuto), .list false (x.unl.map eTrn), .list false (x.til.map eTrn)], y10, V11, V12, V13, V14, V15, V16, V17, V18, V19, .list false (l.map .str), .int .i64 l.length, .int .i64 i], [], g, h'⟩ ∧ BoxRow h' 0 (putAll z (without (l.take i) (dnames x.locals)))) ?_ ?_ ⟨_, g, h, rfl, by simpa [putAll, without] using hb⟩
 ·rintro i hi st ⟨y10, g, h', rfl, hb⟩ ih
  have hw := wrap_succ i (by omega)
  have hlen := putAll_len z (without (l.take i) (dnames x.locals))
  have hlen2 := without_len (l.take i) (dnames x.locals)
  simp only [List.length_take] at hlen2
  have hany := any_decl hL x.locals (by omega) false l[i] h'
  rw [take_snoc hi, without_app, putAll_app] at ih
  by_cases hin : l[i] ∈ dnames x.locals
  ·have hz : without [l[i]] (dnames x.locals) = [] := by simp [without, hin]
   rw [hz] at ih
   simp [hin] at hany
   simp [hi, hw, hany]
   exact ih _ ⟨_, _, h', rfl, hb⟩
  ·have hz : without [l[i]] (dnames x.locals) = [l[i]] := by simp [without, hin]
   rw [hz] at ih
   simp [hin] at hany
   obtain ⟨h2, hc, hb2⟩ := sc_put hL h' 0 _ hb (by omega) l[i]
   simp [hi, hw, hany, hc]
   exact ih _ ⟨_, _, h2, rfl, hb2⟩
 ·rintro st ⟨y10, g, h', rfl, hb⟩
  rw [List.take_length] at hb
  simp
  exact ok _ _ _ hb
def DefdRun (L : Nat → Option PFunc) (s : State) : Prop := ∃ h', callL L 35 [.nils, .list false (s.eqs.map eEqn), .list false (s.autos.map eAuto)] [] = some (.list false ((definedS s).map .str), h')
theorem sc_defd1 (eqs : List Eqn) (autos : List (List State)) (hq : eqs.length ≤ 1500) (ha : autos.length ≤ 1500) (hp : total Eqn.parts eqs + partsA autos ≤ 1500) (hloc : ∀ a ∈ autos, ∀ x ∈ a, x.locals.length ≤ 1500) (hrec : ∀ a ∈ autos, ∀ x ∈ a, DefdRun L x) :
  ∃ h', callL L 35 [.nils, .list false (eqs.map eEqn), .list false (autos.map eAuto)] [] = some (.list false ((definedA (lefts eqs) autos).map .str), h') := by
 suffices H : ∃ r, callL L 35 [.nils, .list false (eqs.map eEqn), .list false (autos.map eAuto)] [] = some r ∧ r.1 = .list false ((definedA (lefts eqs) autos).map .str) by
  obtain ⟨⟨v, h'⟩, h1, h2⟩ := H
  simp only at h2; subst h2
  exact ⟨h', h1⟩
 refine callL_wpP (hL 35 _ rfl) rfl ?_
 have hnc : PV.nils.cells = [.nils] := rfl
 simp [f_scope_defined, hnc]
 rw [f_scope_defined_l1]
 refine loop_rel eqs.length (fun j st => ∃ y6 y7 y14 y15 y16 g h', st = ⟨[.nils, .list false (eqs.map eEqn), .list false (autos.map eAuto), .ptr 0 0, .nils, .func 75 [] [.ptr 0 0], y6, y7, .dead, .dead, .dead, .list false (eqs.map eEqn), .int .i64 eqs.length, .int .i64 j, y14, y15, y16, .dead, .dead, .dead, .dead, .dead, .dead], [], g, h'⟩ ∧ BoxRow h' 0 (lefts (eqs.take j))) ?_ ?_ ⟨_, _, _, _, _, _, [.cells [.nils]], rfl, ⟨.nils, rfl, .inl ⟨rfl, rfl⟩⟩⟩
 ·rintro j hj st ⟨y6, y7, y14, y15, y16, g, h', rfl, hb⟩ ih
  have hw := wrap_succ j (by omega)
  have h1 := lefts_len (eqs.take j)
  have h2 := total_le Eqn.parts eqs j
  have h4 := total_mem Eqn.parts (List.getElem_mem hj)
  have h5 : eqs[j].left.length ≤ Eqn.parts eqs[j] := by simp only [Eqn.parts]; omega
  simp [hj]
  refine sc_defd_l0 hL eqs[j].left (by omega) (lefts (eqs.take j)) (by omega) _ _ _ _ _ _ _ _ _ _ _ _ _ _ _ _ _ _ _ _ hb ?_
  intro y7' h2 hb2
  simp [hw]
  refine ih _ ⟨_, _, _, _, _, _, h2, rfl, ?_⟩
  have hs : lefts (eqs.take (j + 1)) = putAll (lefts (eqs.take j)) eqs[j].left := by
   unfold lefts
   rw [take_snoc hj, List.flatMap_append, List.flatMap_singleton, putAll_app]
  rw [hs]; exact hb2
 ·rintro st ⟨y6, y7, y14, y15, y16, g, h', rfl, hb⟩
  rw [List.take_length] at hb
  simp
  rw [f_scope_defined_l3]
  refine loop_rel autos.length (fun j st => ∃ cur y6 y7 y8 y9 y10 y11 y12 y13 y14 y15 y16 y20 y21 y22 g h', st = ⟨[.nils, .list false (eqs.map eEqn), .list false (autos.map eAuto), .ptr 0 0, .nils, .func 75 [] [.ptr 0 0], y6, y7, y8, y9, y10, y11, y12, y13, y14, y15, y16, .list false (autos.map eAuto), .int .i64 autos.length, .int .i64 j, y20, y21, y22], [], g, h'⟩ ∧ BoxRow h' 0 cur ∧ definedA cur (autos.drop j) = definedA (lefts eqs) autos ∧ cur.length + partsA (autos.drop j) ≤ 1500) ?_ ?_ ⟨lefts eqs, _, _, _, _, _, _, _, _, _, _, _, _, _, _, _, _, rfl, hb, rfl, ?_⟩
  ·rintro j hj st ⟨cur, y6, y7, y8, y9, y10, y11, y12, y13, y14, y15, y16, y20, y21, y22, g, h', rfl, hb, hd, hl⟩ ih
   have hw := wrap_succ j (by omega)
   rw [List.drop_eq_getElem_cons hj] at hd hl
   have hmem := List.getElem_mem hj
   have hlo := hloc _ hmem
   have hre := hrec _ hmem
   simp only [partsA] at hl
   cases hA : autos[j] with
   | nil =>
     rw [hA] at hd hl
     simp only [definedA] at hd
     simp [hj, hw, hA]
     exact ih _ ⟨cur, _, _, _, _, _, _, _, _, _, _, _, _, _, _, _, h', rfl, hb, hd, by simp only [partsL] at hl; omega⟩
   | cons x r =>
     rw [hA] at hd hl hlo hre
     simp only [definedA] at hd
     simp only [partsL] at hl
     obtain ⟨hx', hx⟩ := hre x (by simp)
     have hdl := definedS_len x
     have hwo := without_len (definedS x) (dnames x.locals)
     have hpl := putAll_len cur (without (definedS x) (dnames x.locals))
     have hlx := hlo x (by simp)
     have hr0 : ¬ ((r.length : Int) + 1 = 0) := by omega
     simp [hj, hA, hx, hr0]
     refine sc_defd_l2 hL (definedS x) (by omega) x (by omega) cur (by omega) _ _ _ _ _ _ _ _ _ _ _ _ _ _ _ _ _ _ _ _ hb ?_
     intro y10' g' h2 hb2
     simp [hw]
     exact ih _ ⟨_, _, _, _, _, _, _, _, _, _, _, _, _, _, _, _, h2, rfl, hb2, hd, by omega⟩
  ·rintro st ⟨cur, y6, y7, y8, y9, y10, y11, y12, y13, y14, y15, y16, y20, y21, y22, g, h', rfl, hb, hd, hl⟩
   rw [List.drop_eq_nil_of_le (Nat.le_refl _)] at hd
   simp only [definedA] at hd
   obtain ⟨rv, hn, hr⟩ := hb
   rcases hr with ⟨rfl, rfl⟩ | ⟨k, hkn, rfl, hk⟩
   ·simp [hn, endP, resultV, resultsOf, resultOf, ← hd]
   ·simp [hn, hk, endP, resultV, resultsOf, resultOf, hget, hd, rowEls_str]
  ·have h1 := lefts_len eqs
   simp only [List.drop_zero]
   omega
theorem sc_defdS (s : State) (hs : SW s) (hp : s.parts ≤ 1500) : DefdRun L s := by
 induction s using State.ind with
 | h s ih =>
   unfold DefdRun
   rw [definedS_eq]
   have hpa : total Eqn.parts s.eqs + partsA s.autos ≤ s.parts := by cases s; simp only [State.parts, State.eqs, State.autos]; omega
   refine sc_defd1 hL s.eqs s.autos hs.eqs hs.autos (by omega) (fun a ha x hx => (hs.ss a ha x hx).locals) (fun a ha x hx => ih a ha x hx (hs.ss a ha x hx) ?_)
   have h1 : partsL a ≤ partsA s.autos := by
    rw [partsA_eq, partsL_eq]
    have := total_mem (fun a => 1 + total State.parts a) ha
    omega
   have h2 : x.parts ≤ partsL a := by rw [partsL_eq]; exact total_mem _ hx
   omega
theorem sc_Defined (n : Node) (hn : NW n) (hp : n.parts ≤ 1500) (h : List PObj) : callL L 14 [eNode n] h = some (.list false ((defined n).map .str), h) := by
 have hpa : total Eqn.parts n.eqs + partsA n.autos ≤ n.parts := by simp only [Node.parts]; omega
 have hxp : ∀ a ∈ n.autos, ∀ x ∈ a, x.parts ≤ 1500 := by
  intro a ha x hx
  have h1 : partsL a ≤ partsA n.autos := by
   rw [partsA_eq, partsL_eq]
   have := total_mem (fun a => 1 + total State.parts a) ha
   omega
  have h2 : x.parts ≤ partsL a := by rw [partsL_eq]; exact total_mem _ hx
  omega
 obtain ⟨h', hc⟩ := sc_defd1 hL n.eqs n.autos hn.eqs hn.autos.len (by omega) (fun a ha x hx => (hn.autos.ss a ha x hx).locals) (fun a ha x hx => sc_defdS hL x (hn.autos.ss a ha x hx) (hxp a ha x hx))
 refine callL_wp (hL 14 _ rfl) rfl ?_
 have e : defined n = definedA (lefts n.eqs) n.autos := rfl
 rw [← e] at hc
 simp [f_scope_Defined, hc]
end
end PI.Sc
set_option maxRecDepth 100000
set_option linter.unusedSimpArgs false
set_option linter.unusedVariables false
namespace PI.Sc
open Go (IntKind BinOp UnOp)
open Short
def growF (sz by' : Nat) (z : List PV) : PFunc := ⟨2, 3, (S (R [t 2 (.c (.list true []))]) (S (B [m v1,b .lss l0 (k 0)] l1 (R [m (.c .dead),r (.mov (.c .dead))]) Z) (S (S (R [m v1,m v0,p (.cap l1),m v0,n l3,b .sub l2 l4,b .sub l0 l5,t 1 l6]) (B [m v1,b .gtr l0 (k 0)] l1 (R [m v0,m v0,p (.cap l1),p (.slice false sz l0 none (some l2)),m v1,p (.h (.happz sz true by' z l3 l4)),m v0,n l6,p (.slice false sz l5 none (some l7)),t 0 l8]) Z)) (S (R [m v0,t 2 l0]) Y)))), [.keep 2], false, none, none⟩
def catL0 : PC := (.loop (S (B [b .lss v8 v7] l0 Z (X 0)) (S (K 1 (S (R [i 1 v6 v8,c l0,t 3 l1]) (S (R [m v2,m v3,n l1,b .add l0 l2,t 2 l3]) (B [m v2,b .lss l0 (k 0)] l1 (R [m (.c .dead),r (.mov (.c .dead))]) Z)))) (R [b .add v8 (k 1),q 8 (.mov l0)]))))
def catL1 (sz by' : Nat) : PC := (.loop (S (B [b .lss v11 v10] l0 Z (X 2)) (S (K 3 (S (R [i 1 v9 v11,c l0,t 5 l1]) (R [p (.take v4),m v5,p (.h (.happ sz true by' l0 l1)),t 4 l2]))) (R [b .add v11 (k 1),q 11 (.mov l0)]))))
def catF (sz by' gr : Nat) (res : PRes) : PFunc := ⟨1, 12, (S (R [t 1 (.c .nils)]) (S (R [t 2 (k 0)]) (S (S (R [q 6 (.mov v0),q 7 (.len false v6),q 8 (.mov (k 0))]) (K 0 catL0)) (S (R [m v2,fh gr [(.c .nils),l0],t 4 l1]) (S (S (R [q 9 (.mov v0),q 10 (.len false v9),q 11 (.mov (k 0))]) (K 2 (catL1 sz by'))) (S (R [m v4,t 1 l0]) Y)))))), [res], false, none, none⟩
structure Enc {α : Type} (e : α → PV) (sz : Nat) : Prop where
 agg : ∀ x, e x = .agg (e x).cells
 len : ∀ x, (e x).cells.length = sz
 dem : ∀ x, (e x).cells.map dem = (e x).cells
 pos : 0 < sz
section
variable {α : Type} {e : α → PV} {sz : Nat} (he : Enc e sz)
def RowOf (e : α → PV) (sz : Nat) (h : List PObj) (b : Nat) (v : PV) (l : List α) : Prop := (v = .nils ∧ l = []) ∨ ∃ k cs, b ≤ k ∧ v = .rowp k sz true l.length ∧ h[k]? = some (.cells cs) ∧ l.length * sz ≤ cs.length ∧ cs.take (l.length * sz) = (l.map e).flatMap PV.cells
def eLists (e : α → PV) (gs : List (List α)) : List PV := gs.map fun g => .list false (g.map e)
def countL (gs : List (List α)) : Nat := total List.length gs
theorem countL_app : ∀ (a b : List (List α)), countL (a ++ b) = countL a + countL b
 | [], b => by simp [countL, total]
 | x :: a, b => by
   have := countL_app a b
   simp only [countL] at this
   simp only [countL, List.cons_append, total, this]; omega
theorem countL_snoc (gs : List (List α)) (j : Nat) (hj : j < gs.length) : countL (gs.take (j + 1)) = countL (gs.take j) + gs[j].length := by
 rw [take_snoc hj, countL_app]
 simp [countL, total]
theorem countL_le (gs : List (List α)) (j : Nat) : countL (gs.take j) ≤ countL gs := by
 have := countL_app (gs.take j) (gs.drop j)
 rw [List.take_append_drop] at this; omega
theorem countL_flat (gs : List (List α)) : gs.flatten.length = countL gs := by
 induction gs with
 | nil => rfl
 | cons x gs ih => rw [List.flatten_cons, List.length_append, ih]; simp [countL, total]
include he
theorem Enc.cellsDem : ∀ l : List α, ((l.map e).flatMap PV.cells).map PI.dem = (l.map e).flatMap PV.cells
 | [] => rfl
 | x :: l => by
   rw [List.map_cons, List.flatMap_cons, List.map_append, Enc.cellsDem l, he.dem]
theorem Enc.cellsLen : ∀ l : List α, ((l.map e).flatMap PV.cells).length = l.length * sz
 | [] => by simp
 | x :: l => by
   rw [List.map_cons, List.flatMap_cons, List.length_append, Enc.cellsLen l, he.len, List.length_cons, Nat.succ_mul]; omega
theorem Enc.head (l : List α) : headOk sz (l.map e) = true := by
 cases l with
 | nil => rfl
 | cons x l => simp [headOk, he.len]
theorem Enc.els (l : List α) (cs : List PV) (hc : cs.take (l.length * sz) = (l.map e).flatMap PV.cells) : rowEls sz true cs l.length 0 = some (l.map e) := by
 have key : ∀ (l : List α) (pre post : List PV), rowEls sz true (pre ++ ((l.map e).flatMap PV.cells ++ post)) l.length pre.length = some (l.map e) := by
  intro l
  induction l with
  | nil => intro pre post; rfl
  | cons x l ih =>
    intro pre post
    have h1 := ih (pre ++ (e x).cells) post
    rw [List.length_append, he.len] at h1
    have h2 : pre ++ (e x).cells ++ ((l.map e).flatMap PV.cells ++ post) = pre ++ (((x :: l).map e).flatMap PV.cells ++ post) := by simp
    rw [h2] at h1
    have h3 : loadFrom sz true (pre ++ (((x :: l).map e).flatMap PV.cells ++ post)) pre.length = some (e x) := by
     have hl := he.len x
     have h4 : pre.length + sz ≤ (pre ++ (((x :: l).map e).flatMap PV.cells ++ post)).length := by
      rw [List.length_append, List.length_append, List.map_cons, List.flatMap_cons, List.length_append]; omega
     simp only [loadFrom, if_true, h4, List.drop_left']
     rw [List.map_cons, List.flatMap_cons, List.append_assoc, List.take_left' hl, he.dem, ← he.agg]
    rw [List.length_cons, rowEls, h3, Option.bind_some, h1]
    rfl
 have := key l [] (cs.drop (l.length * sz))
 rw [← hc, List.take_append_drop] at this
 exact this
theorem Enc.happ {by' : Nat} (hby : by' ≤ 16384) (h : List PObj) (b : Nat) (hb : b ≤ h.length) (v : PV) (l m : List α) (hv : RowOf e sz h b v l) (hl : l.length + m.length ≤ 4500) : ∃ v' h', (∀ st : St, st.heap = h → happv h sz true by' (m.map e) v st = some (v', { st with heap := h' })) ∧ Kp b h h' ∧ RowOf e sz h' b v' (l ++ m) := by
 have hh3 := he.head m
 rcases hv with ⟨rfl, rfl⟩ | ⟨k, cs, hk, rfl, hc, hcl, hct⟩
 ·by_cases hm : m = []
  ·subst hm
   refine ⟨.nils, h, ?_, Kp.refl _ _, .inl ⟨rfl, rfl⟩⟩
   intro st hst
   simp [happv, ← hst]
  ·refine ⟨.rowp h.length sz true m.length, h ++ [.cells ((m.map e).flatMap PV.cells)], ?_, Kp.app hb, .inr ⟨h.length, (m.map e).flatMap PV.cells, hb, by simp, by simp, ?_, ?_⟩⟩
   ·intro st hst
    have h1 : m.length ≤ 2147483648 := by simp at hl; omega
    have hmm : ¬ m.map e = [] := by simpa using hm
    simp only [happv, hmm, if_false, hh3, List.length_map, h1, he.cellsDem, hby]
    simp [hst]
   ·rw [he.cellsLen]; simp
   ·rw [List.nil_append, List.take_of_length_le (by rw [he.cellsLen]; omega)]
 ·have hkl : k < h.length := (List.getElem?_eq_some_iff.1 hc).1
  refine ⟨.rowp h.length sz true (l.length + m.length), h.set k .gone ++ [.cells ((l.map e).flatMap PV.cells ++ (m.map e).flatMap PV.cells)], ?_, ⟨by simp, fun n hn => ?_⟩, .inr ⟨h.length, (l.map e).flatMap PV.cells ++ (m.map e).flatMap PV.cells, hb, by simp, ?_, ?_, ?_⟩⟩
  ·intro st hst
   have h1 : l.length + m.length ≤ 2147483648 := by omega
   simp only [happv, hc, hh3, List.length_map, h1, hcl, hct, he.cellsDem, hby]
   simp
  ·rw [List.getElem?_append_left (by simp; omega), List.getElem?_set_ne (by omega)]
  ·have : (h.set k .gone).length = h.length := by simp
   rw [← this, List.getElem?_append_right (Nat.le_refl _)]
   simp
  ·rw [List.length_append, List.length_append, he.cellsLen, he.cellsLen, Nat.add_mul]; omega
  ·rw [List.map_append, List.flatMap_append, List.take_of_length_le (by rw [List.length_append, List.length_append, he.cellsLen, he.cellsLen, Nat.add_mul]; omega)]
end
theorem RowOf.cp {α : Type} {e : α → PV} {sz : Nat} {h : List PObj} {b : Nat} {v : PV} {l : List α} (hv : RowOf e sz h b v l) : cp v = some v ∧ tkv v = some (v, false) ∧ dem v = v := by
 rcases hv with ⟨rfl, _⟩ | ⟨k, cs, _, rfl, _⟩ <;> exact ⟨rfl, rfl, rfl⟩
section
variable {L : Nat → Option PFunc} {α : Type} {e : α → PV} {sz by' gr : Nat} {z : List PV} (he : Enc e sz) (hby : by' ≤ 16384)
theorem grow0 {sz by' : Nat} {z : List PV} (hf : L gr = some (growF sz by' z)) (h : List PObj) : callL L gr [.nils, .int .i64 0] h = some (.nils, h) := by
 refine callL_wp hf rfl ?_
 have hw0 : IntKind.i64.wrap (-IntKind.i64.wrap 0) = 0 := by decide
 simp [growF, hw0]
theorem growN {sz by' : Nat} {z : List PV} (hby : by' ≤ 16384) (hf : L gr = some (growF sz by' z)) (n : Nat) (h0 : 0 < n) (hn : n ≤ 4500) (h : List PObj) : ∃ cs, callL L gr [.nils, .int .i64 n] h = some (.rowp h.length sz true 0, h ++ [.cells cs]) := by
 have h0i : (0 : Int) < n := by omega
 have hni : (n : Int) ≤ 2147483648 := by omega
 have hneg : ¬ (n : Int) < 0 := by omega
 have hw00 : IntKind.i64.wrap 0 = 0 := by decide
 have hw : IntKind.i64.wrap (n : Int) = n := by
  have := wrap_succ (n - 1) (by omega)
  have e : ((n - 1 : Nat) : Int) + 1 = n := by omega
  rw [e] at this
  rw [this]
  omega
 refine ⟨(List.replicate n (z.map dem)).flatten, ?_⟩
 refine callL_wp hf rfl ?_
 simp [growF, h0i, hni, hneg, h0, hw, hw00, hby]
theorem cat_l0 (gs : List (List α)) (hg : gs.length ≤ 1500) (hn : countL gs ≤ 4500) (h : List PObj) (V0 V1 V3 V4 V5 V9 V10 V11 : PV) (g : Nat) {Q : PExit → St → Prop}
  (ok : ∀ y3, Q (.exit 0) ⟨[V0, V1, .int .i64 (countL gs), y3, V4, V5, .list false (eLists e gs), .int .i64 gs.length, .int .i64 gs.length, V9, V10, V11], [], g, h⟩) :
  wpL L catL0 ⟨[V0, V1, .int .i64 0, V3, V4, V5, .list false (eLists e gs), .int .i64 gs.length, .int .i64 0, V9, V10, V11], [], g, h⟩ Q := by
 rw [catL0]
 refine loop_rel gs.length (fun j st => ∃ y3, st = ⟨[V0, V1, .int .i64 (countL (gs.take j)), y3, V4, V5, .list false (eLists e gs), .int .i64 gs.length, .int .i64 j, V9, V10, V11], [], g, h⟩) ?_ ?_ ⟨_, by simp [countL, total]; rfl⟩
 ·rintro j hj st ⟨y3, rfl⟩ ih
  have hw := wrap_succ j (by omega)
  have ht := countL_snoc gs j hj
  have hle := countL_le gs (j + 1)
  obtain ⟨A, hA⟩ : ∃ A, A = countL (gs.take j) := ⟨_, rfl⟩
  obtain ⟨B, hB⟩ : ∃ B, B = countL (gs.take (j + 1)) := ⟨_, rfl⟩
  rw [← hA, ← hB] at ht
  rw [← hB] at hle
  have hws : IntKind.i64.wrap ((A : Int) + gs[j].length) = B := by
   have := wrap_nat (A + gs[j].length) (by omega)
   rw [show (A : Int) + gs[j].length = ((A + gs[j].length : Nat) : Int) by omega, this, ht]
  have hjg : j < (eLists e gs).length := by simpa [eLists] using hj
  have hgj : (eLists e gs)[j]? = some (.list false (gs[j].map e)) := by simp [eLists, hj]
  rw [← hA]
  rw [← hB] at ih
  obtain ⟨GS, hGS⟩ : ∃ GS, GS = eLists e gs := ⟨_, rfl⟩
  rw [← hGS] at ih hjg hgj ⊢
  have hge : GS[j] = .list false (gs[j].map e) := (List.getElem?_eq_some_iff.1 hgj).2
  have hcl : ∀ es, (PV.list false es).cells = [.list false es] := fun _ => rfl
  have hBn : ¬ (B : Int) < 0 := by omega
  simp [hj, hjg, hgj, hw, hws, hge, hcl, hBn]
  exact ih _ ⟨_, rfl⟩
 ·rintro st ⟨y3, rfl⟩
  rw [List.take_length]
  simp
  exact ok _
include he hby
theorem cat_l1 (gs : List (List α)) (hg : gs.length ≤ 1500) (hn : countL gs ≤ 4500) (h : List PObj) (b : Nat) (hb : b ≤ h.length) (V4 : PV) (hV4 : RowOf e sz h b V4 []) (V0 V1 V2 V3 V5 V6 V7 V8 : PV) (g : Nat) {Q : PExit → St → Prop}
  (ok : ∀ h' v y5, Kp b h h' → RowOf e sz h' b v gs.flatten → Q (.exit 2) ⟨[V0, V1, V2, V3, v, y5, V6, V7, V8, .list false (eLists e gs), .int .i64 gs.length, .int .i64 gs.length], [], g, h'⟩) :
  wpL L (catL1 sz by') ⟨[V0, V1, V2, V3, V4, V5, V6, V7, V8, .list false (eLists e gs), .int .i64 gs.length, .int .i64 0], [], g, h⟩ Q := by
 rw [catL1]
 refine loop_rel gs.length (fun j st => ∃ v y5 h', st = ⟨[V0, V1, V2, V3, v, y5, V6, V7, V8, .list false (eLists e gs), .int .i64 gs.length, .int .i64 j], [], g, h'⟩ ∧ Kp b h h' ∧ RowOf e sz h' b v (gs.take j).flatten) ?_ ?_ ⟨_, _, h, rfl, Kp.refl _ _, hV4⟩
 ·rintro j hj st ⟨v, y5, h', rfl, hkp, hv⟩ ih
  have hw := wrap_succ j (by omega)
  have ht := countL_snoc gs j hj
  have hle := countL_le gs (j + 1)
  have hfl : (gs.take (j + 1)).flatten = (gs.take j).flatten ++ gs[j] := by
   rw [take_snoc hj, List.flatten_append]; simp
  obtain ⟨v', h'', hap, hkx, hv'⟩ := he.happ hby h' b (Nat.le_trans hb hkp.1) v _ gs[j] hv (by rw [countL_flat]; omega)
  have hgj : (eLists e gs)[j]? = some (.list false (gs[j].map e)) := by simp [eLists, hj]
  have hjg : j < (eLists e gs).length := by simpa [eLists] using hj
  obtain ⟨GS, hGS⟩ : ∃ GS, GS = eLists e gs := ⟨_, rfl⟩
  rw [← hGS] at ih hjg hgj ⊢
  have hge : GS[j] = .list false (gs[j].map e) := (List.getElem?_eq_some_iff.1 hgj).2
  have hcl : ∀ es, (PV.list false es).cells = [.list false es] := fun _ => rfl
  have hc := hv.cp
  have hc' := hv'.cp
  rw [← hfl] at hv'
  simp [hj, hjg, hgj, hw, hge, hcl, hc.1, hc.2.1, hc.2.2, hap, hc'.1, hc'.2.1, hc'.2.2]
  exact ih _ ⟨v', _, h'', rfl, hkp.trans hkx, hv'⟩
 ·rintro st ⟨v, y5, h', rfl, hkp, hv⟩
  rw [List.take_length] at hv
  simp
  exact ok h' v y5 hkp hv
theorem cat_keep {k : Nat} (hf : L k = some (catF sz by' gr (.keep 1))) (hgr : L gr = some (growF sz by' z)) (gs : List (List α)) (hg : gs.length ≤ 1500) (hn : countL gs ≤ 4500) (o : Bool) (h : List PObj) : ∃ v h', callL L k [.list o (eLists e gs)] h = some (v, h') ∧ Kp h.length h h' ∧ RowOf e sz h' h.length v gs.flatten := by
 suffices H : ∃ r, callL L k [.list o (eLists e gs)] h = some r ∧ Kp h.length h r.2 ∧ RowOf e sz r.2 h.length r.1 gs.flatten from by
  obtain ⟨⟨v, h'⟩, h1, h2, h3⟩ := H
  exact ⟨v, h', h1, h2, h3⟩
 refine callL_wpP hf rfl ?_
 have hgl : (eLists e gs).length = gs.length := by simp [eLists]
 simp [catF, hgl]
 refine cat_l0 gs hg hn h _ _ _ _ _ _ _ _ _ ?_
 intro y3
 by_cases h0 : countL gs = 0
 ·have hgr := grow0 hgr h
  have h0i : (countL gs : Int) = 0 := by omega
  simp [h0i, hgr, hgl]
  refine cat_l1 he hby gs hg hn h h.length (Nat.le_refl _) .nils (.inl ⟨rfl, rfl⟩) _ _ _ _ _ _ _ _ _ ?_
  intro h' v y5 hk hv
  have hc := hv.cp
  simp [hc.1, hc.2.1, hc.2.2, endP]
  exact ⟨hk, hv⟩
 ·obtain ⟨cs, hgr⟩ := growN hby hgr (countL gs) (by omega) hn h
  simp [hgr, hgl]
  refine cat_l1 he hby gs hg hn _ h.length (by simp) (.rowp h.length sz true 0) (.inr ⟨h.length, cs, Nat.le_refl _, rfl, by simp, by simp, by simp⟩) _ _ _ _ _ _ _ _ _ ?_
  intro h' v y5 hk hv
  have hc := hv.cp
  simp [hc.1, hc.2.1, hc.2.2, endP]
  exact ⟨(Kp.app (Nat.le_refl _)).trans hk, hv⟩
theorem cat_list {k : Nat} (hf : L k = some (catF sz by' gr (.var 1))) (hgr : L gr = some (growF sz by' z)) (gs : List (List α)) (hg : gs.length ≤ 1500) (hn : countL gs ≤ 4500) (o : Bool) (h : List PObj) : ∃ h', callL L k [.list o (eLists e gs)] h = some (.list false (gs.flatten.map e), h') := by
 suffices H : ∃ r, callL L k [.list o (eLists e gs)] h = some r ∧ r.1 = .list false (gs.flatten.map e) from by
  obtain ⟨⟨v, h'⟩, h1, h2⟩ := H
  simp only at h2; subst h2
  exact ⟨h', h1⟩
 refine callL_wpP hf rfl ?_
 have hgl : (eLists e gs).length = gs.length := by simp [eLists]
 obtain ⟨F, hF⟩ : ∃ F, F = gs.flatten := ⟨_, rfl⟩
 rw [← hF]
 simp [catF, hgl]
 refine cat_l0 gs hg hn h _ _ _ _ _ _ _ _ _ ?_
 intro y3
 by_cases h0 : countL gs = 0
 ·have hgr := grow0 hgr h
  have h0i : (countL gs : Int) = 0 := by omega
  simp [h0i, hgr, hgl]
  refine cat_l1 he hby gs hg hn h h.length (Nat.le_refl _) .nils (.inl ⟨rfl, rfl⟩) _ _ _ _ _ _ _ _ _ ?_
  intro h' v y5 hk hv
  rw [← hF] at hv
  rcases hv with ⟨rfl, hn⟩ | ⟨k, cs, _, rfl, hc, hl, ht⟩
  ·simp [endP, hn]
  ·simp [endP, hc, he.els _ _ ht]
 ·obtain ⟨cs, hgr⟩ := growN hby hgr (countL gs) (by omega) hn h
  simp [hgr, hgl]
  refine cat_l1 he hby gs hg hn _ h.length (by simp) (.rowp h.length sz true 0) (.inr ⟨h.length, cs, Nat.le_refl _, rfl, by simp, by simp, by simp⟩) _ _ _ _ _ _ _ _ _ ?_
  intro h' v y5 hk hv
  rw [← hF] at hv
  rcases hv with ⟨rfl, hn⟩ | ⟨k, cs, _, rfl, hc, hl, ht⟩
  ·simp [endP, hn]
  ·simp [endP, hc, he.els _ _ ht]
end
theorem encDecl : Enc eDecl 3 := ⟨fun _ => rfl, fun _ => rfl, fun _ => rfl, by decide⟩
theorem encExpr : Enc eExpr 6 := ⟨fun x => by rw [eExpr_def]; rfl, fun x => by simp, fun x => by simp, by decide⟩
theorem encTrn : Enc eTrn 8 := ⟨fun _ => rfl, fun _ => rfl, fun x => by simp, by decide⟩
end PI.Sc
set_option maxRecDepth 100000
set_option linter.unusedSimpArgs false
set_option linter.unusedVariables false
namespace PI.Sc
open Go (IntKind BinOp UnOp)
open Short
structure Takes (L : Nat → Option PFunc) (kf : Nat) (cs : List PV) (Inv : List Expr → List PObj → Prop) : Prop where
 run : ∀ e l h, e.parts ≤ 1500 → EW e → Inv l h → ∃ h', callL L kf (eExpr e :: cs) h = some (.tuple [], h') ∧ Inv (l ++ [e]) h'
section
variable {L : Nat → Option PFunc} (hL : ∀ k f, LS k = some f → L k = some f) {kf : Nat} {cs : List PV} {Inv : List Expr → List PObj → Prop} (hT : Takes L kf cs Inv)
include hL
theorem cat_trn (a b : List Trn) (hn : a.length + b.length ≤ 4500) (o : Bool) (h : List PObj) : ∃ h', callL L 112 [.list o [.list false (a.map eTrn), .list false (b.map eTrn)]] h = some (.list false ((a ++ b).map eTrn), h') := by
 have := cat_list encTrn (by decide) (k := 112) (by' := 88) (gr := 140) (hL 112 _ rfl) (hL 140 _ rfl) [a, b] (by simp) (by simp [countL, total]; omega) o h
 simpa [eLists] using this
theorem cat_expr (a b : List Expr) (hn : a.length + b.length ≤ 4500) (o : Bool) (h : List PObj) : ∃ h', callL L 80 [.list o [.list false (a.map eExpr), .list false (b.map eExpr)]] h = some (.list false ((a ++ b).map eExpr), h') := by
 have := cat_list encExpr (by decide) (k := 80) (by' := 72) (gr := 113) (hL 80 _ rfl) (hL 113 _ rfl) [a, b] (by simp) (by simp [countL, total]; omega) o h
 simpa [eLists] using this
include hT
theorem sc_ex_l1 (ts : List Trn) (hl : ts.length ≤ 4500) (hw : ∀ t ∈ ts, XW t.cond) (l : List Expr) (h : List PObj) (hi : Inv l h) (V0 V1 V3 V4 V5 V6 V7 V8 V9 V10 V11 V12 V13 V14 V15 : PV) (g : Nat) {Q : PExit → St → Prop}
  (ok : ∀ y6 g' h', Inv (l ++ ts.map (·.cond)) h' → Q (.exit 6) ⟨[V0, V1, .func kf [] cs, V3, V4, V5, y6, V7, V8, V9, V10, V11, V12, V13, V14, V15, .list false (ts.map eTrn), .int .i64 ts.length, .int .i64 ts.length], [], g', h'⟩) :
  wpL L f_scope_expressions_l1 ⟨[V0, V1, .func kf [] cs, V3, V4, V5, V6, V7, V8, V9, V10, V11, V12, V13, V14, V15, .list false (ts.map eTrn), .int .i64 ts.length, .int .i64 0], [], g, h⟩ Q := by
 have _ := hL
 rw [f_scope_expressions_l1]
 refine loop_rel ts.length (fun j st => ∃ y6 g' h', st = ⟨[V0, V1, .func kf [] cs, V3, V4, V5, y6, V7, V8, V9, V10, V11, V12, V13, V14, V15, .list false (ts.map eTrn), .int .i64 ts.length, .int .i64 j], [], g', h'⟩ ∧ Inv (l ++ (ts.take j).map (·.cond)) h') ?_ ?_ ⟨_, _, h, rfl, by simpa using hi⟩
 ·rintro j hj st ⟨y6, g', h', rfl, hi⟩ ih
  have hwr := wrap_succ j (by omega)
  have hx := hw _ (List.getElem_mem hj)
  obtain ⟨h2, hc, hi2⟩ := hT.run ts[j].cond _ h' hx.parts hx.ew hi
  simp [hj, hwr, hc]
  exact ih _ ⟨_, _, h2, rfl, by rw [take_snoc hj, List.map_append, ← List.append_assoc]; exact hi2⟩
 ·rintro st ⟨y6, g', h', rfl, hi⟩
  rw [List.take_length] at hi
  simp
  exact ok _ _ _ hi
def ExRun (L : Nat → Option PFunc) (kf : Nat) (cs : List PV) (Inv : List Expr → List PObj → Prop) (s : State) : Prop := ∀ l h, Inv l h → ∃ h', callL L 79 [.list false (s.eqs.map eEqn), .list false (s.autos.map eAuto), .func kf [] cs] h = some (.tuple [], h') ∧ Inv (l ++ (s.eqs.map (·.right) ++ rightsA s.autos)) h'
theorem sc_ex1 (eqs : List Eqn) (autos : List (List State)) (hq : eqs.length ≤ 1500) (hqw : ∀ q ∈ eqs, QW q) (ha : AsW autos) (hrec : ∀ a ∈ autos, ∀ x ∈ a, ExRun L kf cs Inv x) (l : List Expr) (h : List PObj) (hi : Inv l h) :
  ∃ h', callL L 79 [.list false (eqs.map eEqn), .list false (autos.map eAuto), .func kf [] cs] h = some (.tuple [], h') ∧ Inv (l ++ (eqs.map (·.right) ++ rightsA autos)) h' := by
 suffices H : ∃ r, callL L 79 [.list false (eqs.map eEqn), .list false (autos.map eAuto), .func kf [] cs] h = some r ∧ r.1 = .tuple [] ∧ Inv (l ++ (eqs.map (·.right) ++ rightsA autos)) r.2 by
  obtain ⟨⟨v, h'⟩, h1, h2, h3⟩ := H
  simp only at h2; subst h2
  exact ⟨h', h1, h3⟩
 refine callL_wpP (hL 79 _ rfl) rfl ?_
 simp [f_scope_expressions]
 rw [f_scope_expressions_l0]
 refine loop_rel eqs.length (fun j st => ∃ y3 g h', st = ⟨[.list false (eqs.map eEqn), .list false (autos.map eAuto), .func kf [] cs, y3, .dead, .dead, .dead, .list false (eqs.map eEqn), .int .i64 eqs.length, .int .i64 j, .dead, .dead, .dead, .dead, .dead, .dead, .dead, .dead, .dead], [], g, h'⟩ ∧ Inv (l ++ (eqs.take j).map (·.right)) h') ?_ ?_ ⟨_, _, h, rfl, by simpa using hi⟩
 ·rintro j hj st ⟨y3, g, h', rfl, hi⟩ ih
  have hwr := wrap_succ j (by omega)
  have hx := (hqw _ (List.getElem_mem hj)).right
  obtain ⟨h2, hc, hi2⟩ := hT.run eqs[j].right _ h' hx.parts hx.ew hi
  simp [hj, hwr, hc]
  exact ih _ ⟨_, _, h2, rfl, by rw [take_snoc hj, List.map_append, ← List.append_assoc]; exact hi2⟩
 ·rintro st ⟨y3, g, h', rfl, hi⟩
  rw [List.take_length] at hi
  simp
  rw [f_scope_expressions_l3]
  refine loop_rel autos.length (fun j st => ∃ acc y4 y5 y6 y13 y14 y15 y16 y17 y18 g h', st = ⟨[.list false (eqs.map eEqn), .list false (autos.map eAuto), .func kf [] cs, y3, y4, y5, y6, .list false (eqs.map eEqn), .int .i64 eqs.length, .int .i64 eqs.length, .list false (autos.map eAuto), .int .i64 autos.length, .int .i64 j, y13, y14, y15, y16, y17, y18], [], g, h'⟩ ∧ Inv acc h' ∧ acc ++ rightsA (autos.drop j) = l ++ (eqs.map (·.right) ++ rightsA autos)) ?_ ?_ ⟨_, _, _, _, _, _, _, _, _, _, _, h', rfl, hi, by simp⟩
  ·rintro j hj st ⟨acc, y4, y5, y6, y13, y14, y15, y16, y17, y18, g, h', rfl, hi, hd⟩ ih
   have hwr := wrap_succ j (by have := ha.len; omega)
   rw [List.drop_eq_getElem_cons hj] at hd
   have hmem := List.getElem_mem hj
   have hal := ha.as _ hmem
   have hss := ha.ss _ hmem
   have hre := hrec _ hmem
   simp only [rightsA] at hd
   simp [hj]
   rw [f_scope_expressions_l2]
   refine loop_rel autos[j].length (fun i st => ∃ acc y5 y6 y16 y17 y18 g4 g h', st = ⟨[.list false (eqs.map eEqn), .list false (autos.map eAuto), .func kf [] cs, y3, .loc g4 (eAuto autos[j]).cells, y5, y6, .list false (eqs.map eEqn), .int .i64 eqs.length, .int .i64 eqs.length, .list false (autos.map eAuto), .int .i64 autos.length, .int .i64 j, .list false (autos[j].map eState), .int .i64 autos[j].length, .int .i64 i, y16, y17, y18], [], g, h'⟩ ∧ Inv acc h' ∧ acc ++ (rightsL (autos[j].drop i) ++ rightsA (autos.drop (j + 1))) = l ++ (eqs.map (·.right) ++ rightsA autos)) ?_ ?_ ⟨acc, _, _, _, _, _, _, _, h', rfl, hi, by simpa using hd⟩
   ·rintro i hi' st ⟨acc, y5, y6, y16, y17, y18, g4, g, h', rfl, hi, hd⟩ ih2
    have hwi := wrap_succ i (by omega)
    rw [List.drop_eq_getElem_cons hi'] at hd
    obtain ⟨x, hx⟩ : ∃ x, x = autos[j][i] := ⟨_, rfl⟩
    have hsw := hss _ (List.getElem_mem hi')
    have hxr := hre _ (List.getElem_mem hi')
    rw [← hx] at hd hsw hxr
    simp only [rightsL, rightsS_eq] at hd
    obtain ⟨h2, hc, hi2⟩ := hxr _ h' hi
    obtain ⟨hq', hcat⟩ := cat_trn hL x.unl x.til (by have := hsw.unl; have := hsw.til; omega) false []
    simp at hcat
    simp [hj, hi', ← hx, hc, hcat]
    have hl12 : x.unl.length + x.til.length = (x.unl ++ x.til).length := by simp
    have hla : x.unl.map eTrn ++ x.til.map eTrn = (x.unl ++ x.til).map eTrn := by simp
    have hli : (x.unl.length : Int) + x.til.length = ((x.unl ++ x.til).length : Nat) := by simp
    rw [hla, hli]
    refine sc_ex_l1 hL hT (x.unl ++ x.til) (by have := hsw.unl; have := hsw.til; simp; omega) (fun t ht => (List.mem_append.1 ht).elim (hsw.us t) (hsw.ts t)) _ h2 hi2 _ _ _ _ _ _ _ _ _ _ _ _ _ _ _ _ ?_
    intro y6' g' h3 hi3
    simp [hwi]
    exact ih2 _ ⟨_, _, _, _, _, _, _, _, h3, rfl, hi3, by simpa using hd⟩
   ·rintro st ⟨acc, y5, y6, y16, y17, y18, g4, g, h', rfl, hi, hd⟩
    rw [List.drop_eq_nil_of_le (Nat.le_refl _)] at hd
    simp only [rightsL, List.nil_append] at hd
    simp [hj, hwr]
    exact ih _ ⟨acc, _, _, _, _, _, _, _, _, _, _, h', rfl, hi, hd⟩
  ·rintro st ⟨acc, y4, y5, y6, y13, y14, y15, y16, y17, y18, g, h', rfl, hi, hd⟩
   rw [List.drop_eq_nil_of_le (Nat.le_refl _)] at hd
   simp only [rightsA, List.append_nil] at hd
   rw [← hd]
   simp [endP, resultV, resultsOf, shutRes]
   exact hi
theorem sc_exS (s : State) (hs : SW s) : ExRun L kf cs Inv s := by
 induction s using State.ind with
 | h s ih =>
   intro l h hi
   exact sc_ex1 hL hT s.eqs s.autos hs.eqs hs.es hs.asW (fun a ha x hx => ih a ha x hx (hs.ss a ha x hx)) l h hi
theorem sc_every (n : Node) (hn : NW n) (l : List Expr) (h : List PObj) (hi : Inv l h) : ∃ h', callL L 37 [eNode n, .func kf [] cs] h = some (.tuple [], h') ∧ Inv (l ++ nodeExprs n) h' := by
 suffices H : ∃ r, callL L 37 [eNode n, .func kf [] cs] h = some r ∧ r.1 = .tuple [] ∧ Inv (l ++ nodeExprs n) r.2 by
  obtain ⟨⟨v, h'⟩, h1, h2, h3⟩ := H
  simp only at h2; subst h2
  exact ⟨h', h1, h3⟩
 obtain ⟨h2, hc, hi2⟩ := sc_ex1 hL hT n.eqs n.autos hn.eqs hn.es hn.autos (fun a ha x hx => sc_exS hL hT x (hn.autos.ss a ha x hx)) l h hi
 obtain ⟨hq', hcat⟩ := cat_expr hL n.assume n.ensure (by have := hn.assume; have := hn.ensure; omega) false []
 refine callL_wpP (hL 37 _ rfl) rfl ?_
 simp at hcat
 simp [f_scope_every, hc, hcat]
 obtain ⟨M, hM⟩ : ∃ M, M = n.assume ++ n.ensure := ⟨_, rfl⟩
 have hla : n.assume.map eExpr ++ n.ensure.map eExpr = M.map eExpr := by rw [hM]; simp
 have hli : (n.assume.length : Int) + n.ensure.length = (M.length : Nat) := by rw [hM]; simp
 have hMw : ∀ e ∈ M, XW e := fun e he => by rw [hM] at he; exact (List.mem_append.1 he).elim (hn.as e) (hn.gs e)
 have hMl : M.length ≤ 3000 := by rw [hM]; have := hn.assume; have := hn.ensure; simp; omega
 rw [hla, hli]
 have he : l ++ nodeExprs n = l ++ (n.eqs.map (·.right) ++ rightsA n.autos) ++ M := by rw [hM]; simp [nodeExprs]
 rw [he]
 generalize l ++ (n.eqs.map (·.right) ++ rightsA n.autos) = l2 at *
 rw [f_scope_every_l0]
 refine loop_rel M.length (fun j st => ∃ y3 g h', st = ⟨[eNode n, .func kf [] cs, .loc 0 (eNode n).cells, y3, .list false (M.map eExpr), .int .i64 M.length, .int .i64 j], [], g, h'⟩ ∧ Inv (l2 ++ M.take j) h') ?_ ?_ ⟨_, _, h2, rfl, by simpa using hi2⟩
 ·rintro j hj st ⟨y3, g, h', rfl, hi⟩ ih
  have hwr := wrap_succ j (by omega)
  have hx := hMw _ (List.getElem_mem hj)
  obtain ⟨h2, hc, hi2⟩ := hT.run M[j] _ h' hx.parts hx.ew hi
  simp [hj, hwr, hc]
  exact ih _ ⟨_, _, h2, rfl, by rw [take_snoc hj, ← List.append_assoc]; exact hi2⟩
 ·rintro st ⟨y3, g, h', rfl, hi⟩
  rw [List.take_length] at hi
  simp [endP, resultV, resultsOf, shutRes]
  exact hi
end
end PI.Sc
set_option maxRecDepth 100000
set_option linter.unusedSimpArgs false
set_option linter.unusedVariables false
namespace PI.Sc
open Go (IntKind BinOp UnOp)
open Short
section
variable {L : Nat → Option PFunc} (hL : ∀ k f, LS k = some f → L k = some f)
include hL
theorem range_inv {V l : List PV} {g : Nat} {h : List PObj} {Q : PExit → St → Prop} {x : PX} {kb : Nat} {caps : List PX} {cs : List PV} (e : Expr) (he : EW e) (hx : rd ⟨V, l, g, h⟩ x = some (.func 114 [] [.cptr (eExpr e).cells])) (hc : rdAll ⟨V, l, g, h⟩ caps = some cs) (hcs : ∀ p ∈ cs, cp p = some p)
  (I : List Expr → List PObj → Prop) (l0 : List Expr) (h0 : I l0 (h ++ [.loop true]))
  (step : ∀ x ∈ e.list, ∀ l h', I l h' → ∃ h'', outL L kb (.ptr h.length 0 :: (cs ++ [eExpr x])) h' = some (.val (.bool true), h'') ∧ I (l ++ [x]) h'')
  (last : ∀ h', I (l0 ++ e.list) h' → h'[h.length]? = some (.loop true) ∧ Q .normal ⟨V, l, g, h'.set h.length .gone⟩) : wpL L (.rangeF x kb caps) ⟨V, l, g, h⟩ Q := by
 obtain ⟨y, hy⟩ : ∃ y : Expr → List PObj → Option (Out × List PObj), ∀ x h', y x h' = match outL L kb (.ptr h.length 0 :: (cs ++ [eExpr x])) h' with
  | some (.val (.bool b), h'') => some (.val (.bool b), h'')
  | _ => none := ⟨_, fun _ _ => rfl⟩
 have key : ∀ (m : List Expr), (∀ x ∈ m, x ∈ e.list) → ∀ l h', I l h' → ∃ h'', eachRun y m h' = some (.val (.bool true), h'') ∧ I (l ++ m) h'' := by
  intro m
  induction m with
  | nil => intro _ l h' hi; exact ⟨h', rfl, by simpa using hi⟩
  | cons z m ih =>
    intro hm l h' hi
    obtain ⟨h2, h3, h4⟩ := step z (hm z (by simp)) l h' hi
    obtain ⟨h5, h6, h7⟩ := ih (fun x hx => hm x (by simp [hx])) _ h2 h4
    refine ⟨h5, ?_, by simpa using h7⟩
    simp only [eachRun, hy, h3]
    exact h6
 obtain ⟨h', h1, h2⟩ := key e.list (fun _ h => h) l0 _ h0
 obtain ⟨h3, h4⟩ := last h' h2
 refine pr_range hL e he hx hc hcs y ?_ ?_ _ h1 ?_
 ·intro x _ h' r hr
  rw [hy] at hr
  split at hr
  ·rename_i ho; rw [ho]; exact hr
  ·simp at hr
 ·intro x h' r hr
  rw [hy] at hr
  split at hr
  ·exact .inl ⟨_, _, (Option.some.inj hr).symm⟩
  ·simp at hr
 ·simp only [overK, h3]; exact h4
end
def addCall (ns : List Node) (acc : List Nat) (x : Expr) : List Nat := if x.kind = 10 then (match find ns x.name with
 | some i => if i ∈ acc then acc else acc ++ [i]
 | none => acc) else acc
def foundIn (ns : List Node) (l : List Expr) : List Nat := l.foldl (addCall ns) []
theorem foundIn_snoc (ns : List Node) (l : List Expr) (x : Expr) : foundIn ns (l ++ [x]) = addCall ns (foundIn ns l) x := by unfold foundIn; rw [List.foldl_append]; rfl
theorem foundIn_ok (ns : List Node) : ∀ l : List Expr, (foundIn ns l).Nodup ∧ (foundIn ns l).length ≤ l.length ∧ ∀ i, i ∈ foundIn ns l ↔ ∃ x ∈ l, x.kind = 10 ∧ find ns x.name = some i := by
 have key : ∀ (l : List Expr) (p : List Expr) (acc : List Nat), (acc.Nodup ∧ acc.length ≤ p.length ∧ ∀ i, i ∈ acc ↔ ∃ x ∈ p, x.kind = 10 ∧ find ns x.name = some i) → ((l.foldl (addCall ns) acc).Nodup ∧ (l.foldl (addCall ns) acc).length ≤ (p ++ l).length ∧ ∀ i, i ∈ l.foldl (addCall ns) acc ↔ ∃ x ∈ p ++ l, x.kind = 10 ∧ find ns x.name = some i) := by
  intro l
  induction l with
  | nil => intro p acc h; simpa using h
  | cons x l ih =>
    intro p acc ⟨h1, h2, h3⟩
    have := ih (p ++ [x]) (addCall ns acc x) ?_
    ·simpa using this
    ·unfold addCall
     by_cases hk : x.kind = 10
     ·simp only [hk, if_true]
      cases hf : find ns x.name with
      | none =>
        refine ⟨h1, by simp; omega, fun i => ?_⟩
        rw [h3]
        constructor
        ·rintro ⟨y, hy, e⟩; exact ⟨y, by simp [hy], e⟩
        ·rintro ⟨y, hy, e1, e2⟩
         rcases List.mem_append.1 hy with hy | hy
         ·exact ⟨y, hy, e1, e2⟩
         ·simp only [List.mem_singleton] at hy; subst hy; rw [hf] at e2; simp at e2
      | some m =>
        simp only
        by_cases hm : m ∈ acc
        ·rw [if_pos hm]
         refine ⟨h1, by simp; omega, fun i => ?_⟩
         rw [h3]
         constructor
         ·rintro ⟨y, hy, e⟩; exact ⟨y, by simp [hy], e⟩
         ·rintro ⟨y, hy, e1, e2⟩
          rcases List.mem_append.1 hy with hy | hy
          ·exact ⟨y, hy, e1, e2⟩
          ·simp only [List.mem_singleton] at hy; subst hy; rw [hf] at e2; simp only [Option.some.injEq] at e2; subst e2; exact (h3 _).1 hm
        ·rw [if_neg hm]
         refine ⟨?_, by simp; omega, fun i => ?_⟩
         ·rw [List.nodup_append]
          exact ⟨h1, by simp, fun a ha b hb => by simp only [List.mem_singleton] at hb; subst hb; exact fun e => hm (e ▸ ha)⟩
         ·rw [List.mem_append, List.mem_singleton, h3]
          constructor
          ·rintro (⟨y, hy, e⟩ | rfl)
           ·exact ⟨y, by simp [hy], e⟩
           ·exact ⟨x, by simp, hk, hf⟩
          ·rintro ⟨y, hy, e1, e2⟩
           rcases List.mem_append.1 hy with hy | hy
           ·exact .inl ⟨y, hy, e1, e2⟩
           ·simp only [List.mem_singleton] at hy; subst hy; rw [hf] at e2; simp only [Option.some.injEq] at e2; exact .inr e2.symm
     ·simp only [hk, if_false]
      refine ⟨h1, by simp; omega, fun i => ?_⟩
      rw [h3]
      constructor
      ·rintro ⟨y, hy, e⟩; exact ⟨y, by simp [hy], e⟩
      ·rintro ⟨y, hy, e1, e2⟩
       rcases List.mem_append.1 hy with hy | hy
       ·exact ⟨y, hy, e1, e2⟩
       ·simp only [List.mem_singleton] at hy; subst hy; exact absurd e1 hk
 intro l
 have := key l [] [] ⟨by simp, by simp, by simp⟩
 simpa [foundIn] using this
theorem find_some {ns : List Node} {s : Str} {i : Nat} (h : find ns s = some i) : i < ns.length ∧ (ns.getD i default).name = s := by
 unfold find at h
 obtain ⟨hi, h2, _⟩ := List.findIdx?_eq_some_iff_getElem.1 h
 refine ⟨hi, ?_⟩
 rw [List.getD_eq_getElem?_getD, List.getElem?_eq_getElem hi]
 simpa using h2
theorem sorted_calls (ns : List Node) (n : Node) : ((foundIn ns ((nodeExprs n).flatMap Expr.list)).map fun i : Nat => (i : Int)).mergeSort (fun x y => decide (x ≤ y)) = (calls ns n).map fun i : Nat => (i : Int) := by
 obtain ⟨h1, _, h3⟩ := foundIn_ok ns ((nodeExprs n).flatMap Expr.list)
 refine List.Perm.eq_of_pairwise (le := fun a b : Int => a ≤ b) (fun a b _ _ h1 h2 => Int.le_antisymm h1 h2) ?_ ?_ ?_
 ·have := List.pairwise_mergeSort (le := fun x y : Int => decide (x ≤ y)) (fun a b c h1 h2 => by simp only [decide_eq_true_eq] at *; omega) (fun a b => by simp only [Bool.or_eq_true, decide_eq_true_eq]; omega) ((foundIn ns ((nodeExprs n).flatMap Expr.list)).map fun i : Nat => (i : Int))
  exact this.imp fun h => by simpa using h
 ·rw [List.pairwise_map]
  unfold calls
  refine List.Pairwise.filter _ (List.pairwise_lt_range.imp fun h => by omega)
 ·refine (List.mergeSort_perm _ _).trans (List.Perm.map _ ?_)
  unfold calls
  rw [List.perm_ext_iff_of_nodup h1 (List.nodup_range.filter _)]
  intro i
  rw [h3, List.mem_filter, List.mem_range, decide_eq_true_eq]
  constructor
  ·rintro ⟨x, hx, hk, hf⟩
   obtain ⟨hi, hn⟩ := find_some hf
   refine ⟨hi, by rw [hn]; exact hf, ?_⟩
   rw [hn]
   unfold called
   exact List.mem_map.2 ⟨x, List.mem_filter.2 ⟨hx, by simpa using hk⟩, rfl⟩
  ·rintro ⟨hi, hf, hm⟩
   unfold called at hm
   obtain ⟨x, hx, hxn⟩ := List.mem_map.1 hm
   obtain ⟨hx1, hx2⟩ := List.mem_filter.1 hx
   exact ⟨x, hx1, by simpa using hx2, by rw [hxn]; exact hf⟩
theorem intsOf_nats (l : List Nat) : intsOf (eNats l) = some (l.map fun i : Nat => (i : Int)) := by
 induction l with
 | nil => rfl
 | cons x l ih =>
   unfold eNats at ih ⊢
   simp only [List.map_cons, intsOf, ih, Option.map_some]
def CallsH (p : Prog) (n : Nat) (l : List Nat) (h : List PObj) : Prop := h[0]? = some (.cells (eProg p).cells) ∧ ∃ rv, h[1]? = some (.cells [rv]) ∧ ((rv = .list true [] ∧ l = []) ∨ ∃ k, 2 ≤ k ∧ k ≠ n ∧ rv = .rowp k 1 false l.length ∧ h[k]? = some (.cells (eNats l)))
section
variable {L : Nat → Option PFunc} (hL : ∀ k f, LS k = some f → L k = some f)
include hL
theorem hasI_nil (o : Bool) (m : Int) (h : List PObj) : callL L 83 [.list o [], .int .i64 m] h = some (.bool false, h) := by
 have hi : callL L 117 [.list false [], .int .i64 m] h = some (.int .i64 (-1), h) := by
  refine callL_wp (hL 117 _ rfl) rfl ?_
  simp [f_slices_Index_int]
  rw [f_slices_Index_int_l0, wpL_loop]
  simp [f_slices_Index_int]
 refine callL_wp (hL 83 _ rfl) rfl ?_
 simp [f_slices_Contains_int, hi]
theorem hasI_rowp (l : List Nat) (hl : l.length ≤ 2000000000) (n m : Nat) (h : List PObj) (hn : h[n]? = some (.cells (eNats l))) : callL L 83 [.rowp n 1 false l.length, .int .i64 m] h = some (.bool (decide (m ∈ l)), h) := by
 obtain ⟨P, hP⟩ : ∃ P : Nat → Bool, ∀ x, P x = decide (x = m) := ⟨_, fun _ => rfl⟩
 have hi : callL L 117 [.rowp n 1 false l.length, .int .i64 m] h = some (.int .i64 (idxI P l), h) := by
  refine callL_wp (hL 117 _ rfl) rfl ?_
  simp [f_slices_Index_int]
  rw [f_slices_Index_int_l0]
  refine loop_rel l.length (fun j st => ∃ y3, st = ⟨[.rowp n 1 false l.length, .int .i64 m, .int .i64 0, y3, .int .i64 l.length, .int .i64 j], [], 0, h⟩ ∧ ∀ i (hi : i < l.length), i < j → P l[i] = false) ?_ ?_ ⟨_, rfl, fun i _ hi => by omega⟩
  ·rintro j hj st ⟨y3, rfl, hnn⟩ ih
   have hw := wrap_succ j (by omega)
   have hg : (eNats l)[j]? = some (.int .i64 (l[j] : Nat)) := by simp [eNats, hj]
   by_cases hp : l[j] = m
   ·have hp' : ((m : Nat) : Int) = ((l[j] : Nat) : Int) := by omega
    have hp'' : ((l[j] : Nat) : Int) = ((m : Nat) : Int) := by omega
    have hpp : P l[j] = true := by rw [hP]; simpa using hp
    simp [hj, hw, hn, hg, tf hp', tf hp'', tf hp, tf hp.symm, idxI_at hj hpp hnn]
   ·have hp' : ¬ ((m : Nat) : Int) = ((l[j] : Nat) : Int) := by omega
    have hp'' : ¬ ((l[j] : Nat) : Int) = ((m : Nat) : Int) := by omega
    have hpr : ¬ m = l[j] := fun e => hp e.symm
    have hpp : P l[j] = false := by rw [hP]; simpa using hp
    simp [hj, hw, hn, hg, tf hp', tf hp'', tf hp, tf hpr]
    refine ih _ ⟨_, rfl, fun i hi hij => ?_⟩
    by_cases he : i = j
    ·subst he; exact hpp
    ·exact hnn i hi (by omega)
  ·rintro st ⟨y3, rfl, hnn⟩
   simp [f_slices_Index_int, idxI_none (fun i hi => hnn i hi hi)]
 have ha : decide (m ∈ l) = l.any P := by
  rw [Bool.eq_iff_iff, decide_eq_true_eq, List.any_eq_true]
  constructor
  ·intro hm; exact ⟨m, hm, by rw [hP]; simp⟩
  ·rintro ⟨x, hm, hx⟩; rw [hP] at hx; simp at hx; subst hx; exact hm
 rw [ha]
 refine callL_wp (hL 83 _ rfl) rfl ?_
 simp [f_slices_Contains_int, hi, ← idxI_any]
theorem pr_find (p : Prog) (hl : p.nodes.length ≤ 1500) (s : Str) (h : List PObj) : ∃ m : Int, callL L 82 [eProg p, .str s] h = some (.tuple [.int .i64 m, .bool (find p.nodes s).isSome], h) ∧ ∀ i, find p.nodes s = some i → m = i := by
 obtain ⟨P, hP⟩ : ∃ P : Node → Bool, ∀ x, P x = decide (x.name = s) := ⟨_, fun _ => rfl⟩
 have hcall : ∀ x : Node, callL L 116 [eNode x, .cptr [.str s]] [] = some (.bool (P x), []) := by
  intro x
  refine callL_wp (hL 116 _ rfl) rfl ?_
  rw [hP]
  simp [f_shape_Find_1]
 have hi : callL L 115 [.list false (p.nodes.map eNode), .func 116 [] [.cptr [.str s]]] [] = some (.int .i64 (idxI P p.nodes), []) := by
  refine callL_wp (hL 115 _ rfl) rfl ?_
  simp [f_slices_IndexFunc_api_Node]
  rw [f_slices_IndexFunc_api_Node_l0]
  refine loop_rel p.nodes.length (fun j st => ∃ y3, st = ⟨[.list false (p.nodes.map eNode), .func 116 [] [.cptr [.str s]], .int .i64 0, y3, .int .i64 p.nodes.length, .int .i64 j], [], 0, []⟩ ∧ ∀ i (hi : i < p.nodes.length), i < j → P p.nodes[i] = false) ?_ ?_ ⟨_, rfl, fun i _ hi => by omega⟩
  ·rintro j hj st ⟨y3, rfl, hn⟩ ih
   have hw := wrap_succ j (by omega)
   have hc := hcall p.nodes[j]
   cases hp : P p.nodes[j] with
   | true =>
     rw [hp] at hc
     simp [hj, hc, hw, idxI_at hj hp hn]
   | false =>
     rw [hp] at hc
     simp [hj, hc, hw]
     refine ih _ ⟨_, rfl, fun i hi hij => ?_⟩
     by_cases he : i = j
     ·subst he; exact hp
     ·exact hn i hi (by omega)
  ·rintro st ⟨y3, rfl, hn⟩
   simp [f_slices_IndexFunc_api_Node, idxI_none (fun i hi => hn i hi hi)]
 have hPe : find p.nodes s = p.nodes.findIdx? P := by unfold find; congr 1; funext x; rw [hP]
 rw [hPe]
 cases hf : p.nodes.findIdx? P with
 | none =>
   have hx : idxI P p.nodes = -1 := by simp [idxI, hf]
   rw [hx] at hi
   refine ⟨0, ?_, by simp⟩
   refine callL_wp (hL 82 _ rfl) rfl ?_
   simp [f_shape_Find, hi, minmaxv]
 | some i =>
   have hx : idxI P p.nodes = i := by simp [idxI, hf]
   rw [hx] at hi
   refine ⟨i, ?_, by simp⟩
   have h0 : (0 : Int) ≤ i := by omega
   have h1 : ¬ (0 : Int) > i := by omega
   have h2 : ¬ (i : Int) < 0 := by omega
   refine callL_wp (hL 82 _ rfl) rfl ?_
   simp [f_shape_Find, hi, minmaxv, h0, h1, h2]
end
end PI.Sc
set_option maxRecDepth 100000
set_option linter.unusedSimpArgs false
set_option linter.unusedVariables false
namespace PI.Sc
open Go (IntKind BinOp UnOp)
open Short
section
variable {L : Nat → Option PFunc}
def roundBP (n : Nat) (P : Out × List PObj → Prop) : PExit → St → Prop
 | .normal, st => st.heap[n]? = some (.loop false) ∧ P (.val (.bool true), st.heap.set n (.loop true))
 | .boom v, st => P (.boom v, st.heap)
 | .exit id, st => st.heap[n]? = some (.loop false) ∧ P (.val (.bool false), st.heap.set n (.over (some id)))
 | .ret, st => st.heap[n]? = some (.loop false) ∧ P (.val (.bool false), st.heap.set n (.over none))
 | .after .., _ => False
@[simp] theorem roundBP_normal {V l : List PV} {g : Nat} {h : List PObj} (n : Nat) (P : Out × List PObj → Prop) : roundBP n P .normal ⟨V, l, g, h⟩ = (h[n]? = some (.loop false) ∧ P (.val (.bool true), h.set n (.loop true))) := rfl
@[simp] theorem roundBP_boom {V l : List PV} {g : Nat} {h : List PObj} (n : Nat) (P : Out × List PObj → Prop) (v : PV) : roundBP n P (.boom v) ⟨V, l, g, h⟩ = P (.boom v, h) := rfl
def roundAP (L : Nat → Option PFunc) (b : PC) (n : Nat) (P : Out × List PObj → Prop) : PExit → St → Prop
 | .normal, st => st.heap[n]? = some (.loop true) ∧ wpL L b { st with heap := st.heap.set n (.loop false) } (roundBP n P)
 | _, _ => False
@[simp] theorem roundAP_normal {V l : List PV} {g : Nat} {h : List PObj} (b : PC) (n : Nat) (P : Out × List PObj → Prop) : roundAP L b n P .normal ⟨V, l, g, h⟩ = (h[n]? = some (.loop true) ∧ wpL L b ⟨V, l, g, h.set n (.loop false)⟩ (roundBP n P)) := rfl
theorem outL_roundP {k : Nat} {f : PFunc} {a b : PC} {n : Nat} {as : List PV} {hp : List PObj} {P : Out × List PObj → Prop} (hf : L k = some f) (hcode : f.code = .round a b) (hl : as.length + 1 = f.params) (hn : hp[n]? = some (.loop true))
  (hw : wpL L a ⟨as.map dem ++ List.replicate (f.nv - as.length) .dead, [], 0, hp⟩ (roundAP L b n P)) (hs : f.split = false := by rfl) (hpr : f.prim = none := by rfl) : ∃ r, outL L k (.ptr n 0 :: as) hp = some r ∧ P r := by
 rw [wpL_iff] at hw
 obtain ⟨e, st, h1, h2⟩ := hw
 have key : ∀ r, runRound (fun c st => evL L c st) f.nv a b (.ptr n 0 :: as) hp = some r → outL L k (.ptr n 0 :: as) hp = some r := by
  intro r hr
  refine outL_of hf (by simpa using hl) ?_ hs hpr
  unfold runOut
  rw [hcode]
  exact hr
 cases e with
 | normal =>
   obtain ⟨h3, h4⟩ := h2
   rw [wpL_iff] at h4
   obtain ⟨e2, st2, h5, h6⟩ := h4
   cases e2 with
   | normal => exact ⟨_, key _ (by simp only [runRound, hn, h1, h3, h5, h6.1]), h6.2⟩
   | boom v => exact ⟨_, key _ (by simp only [runRound, hn, h1, h3, h5]), h6⟩
   | exit id => exact ⟨_, key _ (by simp only [runRound, hn, h1, h3, h5, h6.1]), h6.2⟩
   | ret => exact ⟨_, key _ (by simp only [runRound, hn, h1, h3, h5, h6.1]), h6.2⟩
   | after kd cs v => exact h6.elim
 | exit id => exact h2.elim
 | ret => exact h2.elim
 | boom v => exact h2.elim
 | after kd cs v => exact h2.elim
end
theorem rowEls_nats (l : List Nat) : rowEls 1 false (eNats l) l.length 0 = some (eNats l) := by
 suffices H : ∀ (n off : Nat), off + n = l.length → rowEls 1 false (eNats l) n off = some (eNats (l.drop off)) by simpa using H l.length 0 (by omega)
 intro n
 induction n with
 | zero => intro off h; rw [List.drop_eq_nil_of_le (by omega)]; rfl
 | succ n ih =>
   intro off h
   have hlt : off < l.length := by omega
   have hg : (eNats l)[off]? = some (.int .i64 (l[off] : Nat)) := by simp [eNats, hlt]
   have hl : loadFrom 1 false (eNats l) off = some (.int .i64 (l[off] : Nat)) := by simp only [loadFrom, hg]; rfl
   simp only [rowEls, hl, ih (off + 1) (by omega)]
   rw [List.drop_eq_getElem_cons hlt]; rfl
theorem foundIn_le (ns : List Node) (l : List Expr) : (foundIn ns l).length ≤ ns.length := by
 obtain ⟨h1, _, h3⟩ := foundIn_ok ns l
 have hp : (foundIn ns l).Perm ((List.range ns.length).filter fun i => decide (i ∈ foundIn ns l)) := by
  rw [List.perm_ext_iff_of_nodup h1 (List.nodup_range.filter _)]
  intro i
  rw [List.mem_filter, List.mem_range, decide_eq_true_eq]
  refine ⟨fun h => ⟨?_, h⟩, fun h => h.2⟩
  obtain ⟨x, _, _, hf⟩ := (h3 i).1 h
  exact (find_some hf).1
 rw [hp.length_eq]
 exact Nat.le_trans (List.length_filter_le _ _) (by simp)
theorem CallsH.gone {p : Prog} {n : Nat} {l : List Nat} {h : List PObj} (hh : CallsH p n l h) (hn : 2 ≤ n) : CallsH p (h.set n .gone).length l (h.set n .gone) := by
 obtain ⟨h0, rv, h1, hr⟩ := hh
 refine ⟨by rw [List.getElem?_set_ne (by omega)]; exact h0, rv, by rw [List.getElem?_set_ne (by omega)]; exact h1, ?_⟩
 rcases hr with h | ⟨k, e1, e2, e3, e4⟩
 ·exact .inl h
 ·have := (List.getElem?_eq_some_iff.1 e4).1
  exact .inr ⟨k, e1, by simp; omega, e3, by rw [List.getElem?_set_ne (Ne.symm e2)]; exact e4⟩
theorem CallsH.loop {p : Prog} {l : List Nat} {h : List PObj} (hh : CallsH p h.length l h) : CallsH p h.length l (h ++ [.loop true]) := by
 obtain ⟨h0, rv, h1, hr⟩ := hh
 have b0 := (List.getElem?_eq_some_iff.1 h0).1
 have b1 := (List.getElem?_eq_some_iff.1 h1).1
 refine ⟨by rw [List.getElem?_append_left b0]; exact h0, rv, by rw [List.getElem?_append_left b1]; exact h1, ?_⟩
 rcases hr with h | ⟨k, e1, e2, e3, e4⟩
 ·exact .inl h
 ·have := (List.getElem?_eq_some_iff.1 e4).1
  exact .inr ⟨k, e1, e2, e3, by rw [List.getElem?_append_left this]; exact e4⟩
theorem CallsH.push {p : Prog} {n m q : Nat} {l : List Nat} {H : List PObj} {vs : List PV} (hn2 : 2 ≤ n) (hm : m = H.length) (hq : q = l.length) (hv : vs = eNats l) (h0 : H[0]? = some (.cells (eProg p).cells)) (hn : H[n]? = some (.loop false)) :
  ((H ++ [PObj.cells vs]).set 1 (PObj.cells [.rowp m 1 false q]))[n]? = some (.loop false) ∧ CallsH p n l (((H ++ [PObj.cells vs]).set 1 (PObj.cells [.rowp m 1 false q])).set n (.loop true)) ∧ (((H ++ [PObj.cells vs]).set 1 (PObj.cells [.rowp m 1 false q])).set n (.loop true))[n]? = some (.loop true) := by
 subst hm hq hv
 have hlt := (List.getElem?_eq_some_iff.1 hn).1
 refine ⟨?_, ⟨?_, _, ?_, .inr ⟨H.length, by omega, by omega, rfl, ?_⟩⟩, ?_⟩
 ·rw [List.getElem?_set_ne (by omega), List.getElem?_append_left hlt]; exact hn
 ·rw [List.getElem?_set_ne (by omega), List.getElem?_set_ne (by omega), List.getElem?_append_left (by omega)]; exact h0
 ·rw [List.getElem?_set_ne (by omega), List.getElem?_set_self (by simp; omega)]
 ·rw [List.getElem?_set_ne (by omega), List.getElem?_set_ne (by omega), List.getElem?_append_right (Nat.le_refl _)]; simp
 ·rw [List.getElem?_set_self (by simp; omega)]
section
variable {L : Nat → Option PFunc} (hL : ∀ k f, LS k = some f → L k = some f)
include hL
theorem sc_callRound (p : Prog) (hl : p.nodes.length ≤ 1500) (n : Nat) (hn2 : 2 ≤ n) (x : Expr) (l : List Nat) (hll : l.length ≤ 100000) (h : List PObj) (hh : CallsH p n l h) (hlp : h[n]? = some (.loop true)) :
  ∃ h', outL L 187 [.ptr n 0, .ptr 0 0, .ptr 1 0, eExpr x] h = some (.val (.bool true), h') ∧ CallsH p n (addCall p.nodes l x) h' ∧ h'[n]? = some (.loop true) := by
 suffices H : ∃ r, outL L 187 [.ptr n 0, .ptr 0 0, .ptr 1 0, eExpr x] h = some r ∧ r.1 = .val (.bool true) ∧ CallsH p n (addCall p.nodes l x) r.2 ∧ r.2[n]? = some (.loop true) by
  obtain ⟨⟨v, h'⟩, h1, h2, h3⟩ := H
  simp only at h2; subst h2
  exact ⟨h', h1, h3⟩
 have hlt := (List.getElem?_eq_some_iff.1 hlp).1
 have same : CallsH p n l ((h.set n (.loop false)).set n (.loop true)) ∧ ((h.set n (.loop false)).set n (.loop true))[n]? = some (.loop true) := by
  rw [set_same, set_back hlp]; exact ⟨hh, hlp⟩
 obtain ⟨h0, rv, h1, hr⟩ := hh
 refine outL_roundP (as := [.ptr 0 0, .ptr 1 0, eExpr x]) (hL 187 _ rfl) rfl rfl hlp ?_
 obtain ⟨H, hH⟩ : ∃ H, H = h.set n (.loop false) := ⟨_, rfl⟩
 have H0 : H[0]? = some (.cells (eProg p).cells) := by rw [hH, List.getElem?_set_ne (by omega)]; exact h0
 have H1 : H[1]? = some (.cells [rv]) := by rw [hH, List.getElem?_set_ne (by omega)]; exact h1
 have Hn : H[n]? = some (.loop false) := by rw [hH, List.getElem?_set_self hlt]
 have Hlen : H.length = h.length := by rw [hH]; simp
 rw [← hH] at same
 by_cases hk : x.kind = 10
 ·obtain ⟨m, hf, hfm⟩ := pr_find hL p hl x.name []
  cases hfd : find p.nodes x.name with
  | none =>
    rw [hfd] at hf
    have ha : addCall p.nodes l x = l := by simp [addCall, hk, hfd]
    rw [ha]
    simp at hf
    simp [f_scope_Calls_1_0, hlp, ← hH, hk, H0, hf, Hn]
    exact same
  | some i =>
    have hmi := hfm i hfd
    subst hmi
    rw [hfd] at hf
    simp at hf
    rcases hr with ⟨rfl, rfl⟩ | ⟨k, e1, e2, rfl, e4⟩
    ·have hc := hasI_nil hL false i H
     have ha : addCall p.nodes [] x = [i] := by simp [addCall, hk, hfd]
     rw [ha]
     have e5 : (H.set 1 (.cells [.list false []]) ++ [PObj.cells [PV.int .i64 i]])[1]? = some (.cells [.list false []]) := by
      rw [List.getElem?_append_left (by simp; omega), List.getElem?_set_self (by omega)]
     have hl1 : 1 < H.length := by omega
     simp [f_scope_Calls_1_0, hlp, ← hH, hk, H0, H1, hf, hc, happv, headOk, e5, storeInto1]
     exact CallsH.push hn2 (by simp) rfl rfl (by rw [List.getElem?_set_ne (by omega)]; exact H0) (by rw [List.getElem?_set_ne (by omega)]; exact Hn)
    ·have Hk : H[k]? = some (.cells (eNats l)) := by rw [hH, List.getElem?_set_ne (Ne.symm e2)]; exact e4
     have hc := hasI_rowp hL l (by omega) k i H Hk
     by_cases hin : i ∈ l
     ·have ha : addCall p.nodes l x = l := by simp [addCall, hk, hfd, hin]
      rw [ha]
      simp [hin] at hc
      simp [f_scope_Calls_1_0, hlp, ← hH, hk, H0, H1, hf, hc, Hn]
      exact same
     ·have ha : addCall p.nodes l x = l ++ [i] := by simp [addCall, hk, hfd, hin]
      rw [ha]
      simp [hin] at hc
      have hb1 : l.length + 1 ≤ 2147483648 := by omega
      have e5 : ∀ X, (H.set k .gone ++ [X])[1]? = some (.cells [.rowp k 1 false l.length]) := fun X => by
       rw [List.getElem?_append_left (by simp; omega), List.getElem?_set_ne (by omega)]; exact H1
      have hel : (eNats l).length = l.length := by simp [eNats]
      have htk : List.take l.length (List.map dem (eNats l)) = eNats l := by
       rw [List.take_of_length_le (by simp [eNats])]
       unfold eNats
       rw [List.map_map]; rfl
      have htk2 : List.map dem (List.take l.length (eNats l)) = eNats l := by rw [List.map_take]; exact htk
      simp [f_scope_Calls_1_0, hlp, ← hH, hk, H0, H1, Hk, hf, hc, happv, headOk, e5, storeInto1, hb1, hel, htk, htk2]
      exact CallsH.push hn2 (by simp) (by simp) (by simp [eNats]) (by rw [List.getElem?_set_ne (by omega)]; exact H0) (by rw [List.getElem?_set_ne e2]; exact Hn)
 ·have ha : addCall p.nodes l x = l := by simp [addCall, hk]
  rw [ha]
  simp [f_scope_Calls_1_0, hlp, ← hH, hk, Hn]
  exact same
theorem sc_callOne (p : Prog) (hl : p.nodes.length ≤ 1500) (e : Expr) (he : EW e) (E : List Expr) (h : List PObj) (hh : CallsH p h.length (foundIn p.nodes (E.flatMap Expr.list)) h) :
  ∃ h', callL L 38 [eExpr e, .ptr 0 0, .ptr 1 0] h = some (.tuple [], h') ∧ CallsH p h'.length (foundIn p.nodes ((E ++ [e]).flatMap Expr.list)) h' := by
 suffices H : ∃ r, callL L 38 [eExpr e, .ptr 0 0, .ptr 1 0] h = some r ∧ r.1 = .tuple [] ∧ CallsH p r.2.length (foundIn p.nodes ((E ++ [e]).flatMap Expr.list)) r.2 by
  obtain ⟨⟨v, h'⟩, h1, h2, h3⟩ := H
  simp only at h2; subst h2
  exact ⟨h', h1, h3⟩
 have b1 := (List.getElem?_eq_some_iff.1 hh.2.choose_spec.1).1
 have hE := pr_Each hL e h
 refine callL_wpP (hL 38 _ rfl) rfl ?_
 simp [f_scope_Calls_1, hE]
 refine range_inv hL e he (cs := [.ptr 0 0, .ptr 1 0]) (by simp) (by simp) (by simp) (fun m h' => CallsH p h.length (foundIn p.nodes m) h' ∧ h'[h.length]? = some (.loop true)) (E.flatMap Expr.list) ⟨hh.loop, by simp⟩ ?_ ?_
 ·rintro x hx m h' ⟨h1, h2⟩
  obtain ⟨h3, h4, h5, h6⟩ := sc_callRound hL p hl h.length (by omega) x _ (by have := foundIn_le p.nodes m; omega) h' h1 h2
  exact ⟨h3, h4, by rw [foundIn_snoc]; exact h5, h6⟩
 ·rintro h' ⟨h1, h2⟩
  refine ⟨h2, ?_⟩
  simp [endP]
  have : (E ++ [e]).flatMap Expr.list = E.flatMap Expr.list ++ e.list := by simp
  have hg := h1.gone (by omega)
  simpa using hg
theorem sc_calls (p : Prog) (hn : ∀ n ∈ p.nodes, NW n) (hl : p.nodes.length ≤ 1500) (i : Int) : ∃ o h', callL L 17 [eProg p, .int .i64 i] [] = some (.list o (eNats (callsAt p i)), h') := by
 suffices H : ∃ r, callL L 17 [eProg p, .int .i64 i] [] = some r ∧ ∃ o, r.1 = .list o (eNats (callsAt p i)) by
  obtain ⟨⟨v, h'⟩, h1, o, h2⟩ := H
  simp only at h2; subst h2
  exact ⟨o, h', h1⟩
 refine callL_wpP (hL 17 _ rfl) rfl ?_
 by_cases h0 : i < 0
 ·have hc : callsAt p i = [] := by unfold callsAt; rw [if_neg (by omega)]
  rw [hc]
  simp [f_scope_Calls, h0, eNats, endP]
 by_cases h1 : (p.nodes.length : Int) ≤ i
 ·have hc : callsAt p i = [] := by unfold callsAt; rw [if_neg (by omega)]
  rw [hc]
  simp [f_scope_Calls, h0, h1, eNats, endP]
 obtain ⟨k, rfl⟩ : ∃ k : Nat, i = k := ⟨i.toNat, by omega⟩
 have hk : k < p.nodes.length := by omega
 obtain ⟨N, hN⟩ : ∃ N, N = p.nodes[k] := ⟨_, rfl⟩
 have hc : callsAt p k = calls p.nodes N := by
  unfold callsAt
  rw [if_pos (by omega)]
  congr 1
  simp [List.getD, hk, hN]
 rw [hc]
 have hNW := hn _ (List.getElem_mem hk)
 rw [← hN] at hNW
 have hT : Takes L 38 [.ptr 0 0, .ptr 1 0] (fun E h => CallsH p h.length (foundIn p.nodes (E.flatMap Expr.list)) h) := ⟨fun e l h _ he hi => sc_callOne hL p hl e he l h hi⟩
 obtain ⟨h2, hev, hi⟩ := sc_every hL hT N hNW [] [.cells (eProg p).cells, .cells [.list true []]] ⟨rfl, _, rfl, .inl ⟨rfl, rfl⟩⟩
 have hs := sorted_calls p.nodes N
 simp only [List.nil_append] at hi
 obtain ⟨i0, rv, i1, hr⟩ := hi
 simp at hev
 rcases hr with ⟨rfl, hnil⟩ | ⟨q, e1, e2, rfl, e4⟩
 ·have h39 : callL L 39 [.list false []] h2 = some (.tuple [], h2) := by rw [callL_prim (hL 39 _ rfl) rfl rfl]; rfl
  rw [hnil] at hs
  have hcz : calls p.nodes N = [] := by simpa using hs.symm
  rw [hcz]
  simp [f_scope_Calls, h0, h1, hk, ← hN, hev, i1, h39, eNats, endP]
 ·have hle := foundIn_le p.nodes ((nodeExprs N).flatMap Expr.list)
  have h39 : callL L 39 [.rowp q 1 false (foundIn p.nodes ((nodeExprs N).flatMap Expr.list)).length] h2 = some (.tuple [], h2.set q (.cells (eNats (calls p.nodes N)))) := by
   rw [callL_prim (hL 39 _ rfl) rfl rfl]
   have hel : (eNats (foundIn p.nodes ((nodeExprs N).flatMap Expr.list))).length = (foundIn p.nodes ((nodeExprs N).flatMap Expr.list)).length := by simp [eNats]
   have hx : pSortInts [.rowp q 1 false (foundIn p.nodes ((nodeExprs N).flatMap Expr.list)).length] h2 = some (.tuple [], h2.set q (.cells (eNats (calls p.nodes N)))) := by
    simp only [pSortInts, e4]
    rw [if_pos (by omega), List.take_of_length_le (by omega), List.drop_eq_nil_of_le (by omega), intsOf_nats]
    simp only [Option.map_some, hs, List.append_nil]
    congr 4
    simp [eNats]
   have hx' : (f_slices_Sort_int.prim.getD fun _ _ => none) [.rowp q 1 false (foundIn p.nodes ((nodeExprs N).flatMap Expr.list)).length] h2 = some (.tuple [], h2.set q (.cells (eNats (calls p.nodes N)))) := hx
   simp [hx]
  have hlen : (foundIn p.nodes ((nodeExprs N).flatMap Expr.list)).length = (calls p.nodes N).length := by
   have := congrArg List.length hs
   simpa using this
  have hq := (List.getElem?_eq_some_iff.1 e4).1
  have i2 : (h2.set q (PObj.cells (eNats (calls p.nodes N))))[1]? = some (.cells [.rowp q 1 false (foundIn p.nodes ((nodeExprs N).flatMap Expr.list)).length]) := by rw [List.getElem?_set_ne (by omega)]; exact i1
  have i3 : (h2.set q (PObj.cells (eNats (calls p.nodes N))))[q]? = some (.cells (eNats (calls p.nodes N))) := by rw [List.getElem?_set_self hq]
  have hel := rowEls_nats (calls p.nodes N)
  rw [hlen] at i1 i2 h39
  simp [f_scope_Calls, h0, h1, hk, ← hN, hev, i1, i2, i3, h39, hel, endP]
end
end PI.Sc
set_option maxRecDepth 100000
set_option linter.unusedSimpArgs false
set_option linter.unusedVariables false
namespace PI.Sc
open Go (IntKind BinOp UnOp)
open Short
section
variable {L : Nat → Option PFunc} (hL : ∀ k f, LS k = some f → L k = some f)
include hL
theorem sc_clone (l : List On) (hl : l.length ≤ 1500) (o : Bool) (h : List PObj) : ∃ r, callL L 34 [.list o (l.map eOn)] h = some (.list r (l.map eOn), h) := by
 refine ⟨true, ?_⟩
 refine callL_split (hL 34 _ rfl) rfl rfl ?_ ?_
 ·intro hv
  cases l with
  | nil => simp at hv
  | cons x l =>
    rw [List.length_cons] at hl
    have h1 : l.length + 1 ≤ 9223372036854775807 := by omega
    have h2 : (l.length + 1) * 32 ≤ 140737488355328 := by omega
    have h3 : l.length + 1 ≤ 2147483648 := by omega
    simp [f_slices_Clone_api_On, h1, h2, h3]
 ·intro hv
  cases l with
  | nil => simp [f_slices_Clone_api_On]
  | cons x l => simp at hv
end
end PI.Sc
set_option maxRecDepth 100000
set_option linter.unusedSimpArgs false
set_option linter.unusedVariables false
namespace PI.Sc
open Go (IntKind BinOp UnOp)
open Short
section
variable {L : Nat → Option PFunc} (hL : ∀ k f, LS k = some f → L k = some f)
include hL
theorem sc_concat (gs : List (List Decl)) (hg : gs.length ≤ 1500) (hn : countL gs ≤ 4500) (o : Bool) (h : List PObj) : ∃ v h', callL L 33 [.list o (eLists eDecl gs)] h = some (v, h') ∧ Kp h.length h h' ∧ RowOf eDecl 3 h' h.length v gs.flatten :=
 cat_keep encDecl (by decide) (k := 33) (by' := 48) (gr := 74) (hL 33 _ rfl) (hL 74 _ rfl) gs hg hn o h
theorem row_at (l : List Decl) (cs : List PV) (hc : cs.take (l.length * 3) = (l.map eDecl).flatMap PV.cells) (hl : l.length * 3 ≤ cs.length) (j : Nat) (hj : j < l.length) :
  j * 3 + 3 ≤ cs.length ∧ List.map dem (List.take 3 (List.drop (j * 3) cs)) = [.str l[j].name, .int .i64 l[j].type, .list false (l[j].clock.map eOn)] ∧ cs.set (j * 3 + 2) (.list false (l[j].clock.map eOn)) = cs := by
 have _ := hL
 have he := encDecl.els l cs hc
 obtain ⟨_, hg⟩ := rowEls_get he
 have h1 := hg j (eDecl l[j]) (by simp [hj])
 simp only [Nat.zero_add, loadFrom, if_true] at h1
 have hb : j * 3 + 3 ≤ cs.length := by omega
 rw [if_pos hb, eDecl_def] at h1
 simp only [Option.some.injEq, PV.agg.injEq] at h1
 refine ⟨hb, h1, ?_⟩
 have hlt : j * 3 + 2 < cs.length := by omega
 have hx : cs[j * 3 + 2]? = some (.list false (l[j].clock.map eOn)) := by
  have hflat : ∀ (l : List Decl) (j : Nat) (hj : j < l.length), ((l.map eDecl).flatMap PV.cells)[j * 3 + 2]? = some (.list false (l[j].clock.map eOn)) := by
   intro l
   induction l with
   | nil => intro j hj; simp at hj
   | cons x l ih =>
     intro j hj
     rw [List.map_cons, List.flatMap_cons]
     cases j with
     | zero => rfl
     | succ j =>
       have := ih j (by simpa using hj)
       have e : (j + 1) * 3 + 2 = (eDecl x).cells.length + (j * 3 + 2) := by show _ = 3 + _; omega
       rw [e, List.getElem?_append_right (by omega), Nat.add_sub_cancel_left]
       simpa using this
  have := hflat l j hj
  rw [← hc, List.getElem?_take_of_lt (by omega)] at this
  exact this
 obtain ⟨h2, h3⟩ := List.getElem?_eq_some_iff.1 hx
 rw [← h3]; exact List.set_getElem_self h2
theorem sc_vars (n : Node) (h1 : n.ins.length ≤ 1500) (h2 : n.outs.length ≤ 1500) (h3 : n.locals.length ≤ 1500) (hd : ∀ d ∈ vars n, d.clock.length ≤ 1500) : ∃ h', callL L 11 [eNode n] [] = some (.list false ((vars n).map eDecl), h') := by
 suffices H : ∃ r, callL L 11 [eNode n] [] = some r ∧ r.1 = .list false ((vars n).map eDecl) by
  obtain ⟨⟨v, h'⟩, h1, h2⟩ := H
  simp only at h2; subst h2
  exact ⟨h', h1⟩
 obtain ⟨v, h', hc, _, hr⟩ := sc_concat hL [n.ins, n.outs, n.locals] (by simp) (by simp [countL, total]; omega) false []
 have hf : [n.ins, n.outs, n.locals].flatten = vars n := by simp [vars]
 rw [hf] at hr
 have hx : eLists eDecl [n.ins, n.outs, n.locals] = [.list false (n.ins.map eDecl), .list false (n.outs.map eDecl), .list false (n.locals.map eDecl)] := rfl
 rw [hx] at hc
 have hvl : (vars n).length ≤ 4500 := by simp [vars]; omega
 obtain ⟨D, hD⟩ : ∃ D, D = vars n := ⟨_, rfl⟩
 rw [← hD] at hr hd hvl ⊢
 refine callL_wpP (hL 11 _ rfl) rfl ?_
 rcases hr with ⟨rfl, rfl⟩ | ⟨k, cs, _, rfl, hk, hl, ht⟩
 ·simp [f_scope_Vars, hc]
  rw [f_scope_Vars_l0, wpL_loop]
  simp [endP]
 ·simp [f_scope_Vars, hc]
  rw [f_scope_Vars_l0]
  refine loop_rel D.length (fun j st => ∃ y4 y5 g, st = ⟨[eNode n, .loc 0 (eNode n).cells, .list true [], .rowp k 3 true D.length, y4, y5, .rowp k 3 true D.length, .int .i64 D.length, .int .i64 j], [], g, h'⟩) ?_ ?_ ⟨_, _, _, rfl⟩
  ·rintro j hj st ⟨y4, y5, g, rfl⟩ ih
   have hw := wrap_succ j (by omega)
   obtain ⟨r1, r2, r3⟩ := row_at hL D cs ht hl j hj
   obtain ⟨o, hcl⟩ := sc_clone hL D[j].clock (hd _ (List.getElem_mem hj)) false []
   have hset : h'.set k (.cells cs) = h' := set_back hk
   have r4 : j * 3 + 2 < cs.length := by omega
   simp [hj, hw, hk, r1, r2, r3, r4, hcl, hset]
   exact ih _ ⟨_, _, _, rfl⟩
  ·rintro st ⟨y4, y5, g, rfl⟩
   simp [endP, hk, encDecl.els _ _ ht]
end
end PI.Sc
