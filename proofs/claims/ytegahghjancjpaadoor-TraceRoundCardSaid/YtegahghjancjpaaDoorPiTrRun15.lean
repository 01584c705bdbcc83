/-
  What the laws' helpers come to: different names. The laws TraceRound and TraceBack, run.
-/
import Derived.Test.YtegahghjancjpaaDoorPiTrRun14
set_option maxRecDepth 100000
set_option linter.unusedSimpArgs false
set_option linter.unusedVariables false
namespace PI.Tr
open Go (IntKind BinOp UnOp)

def distinct (l : List Str) : Bool := decide (l.length ≤ 30) && l.all ident && decide l.Nodup
def named (en : List Enum) : Bool := (en.take 40).all (fun u => distinct u.tags) && distinct ((en.take 40).map (·.name))

theorem nodup_steps {l : List Str} (h : ∀ (i : Nat) (hi : i < l.length), l[i] ∉ l.take i) : l.Nodup := by
  unfold List.Nodup
  rw [List.pairwise_iff_getElem]
  intro i j hi hj hij e
  apply h j hj
  rw [← e, List.mem_iff_getElem]
  exact ⟨i, by simp; omega, by simp⟩
theorem nodup_not {l : List Str} {i : Nat} (hi : i < l.length) (h : l[i] ∈ l.take i) : ¬ l.Nodup := by
  intro hn
  unfold List.Nodup at hn
  rw [List.pairwise_iff_getElem] at hn
  obtain ⟨k, hk, he⟩ := List.mem_iff_getElem.1 h
  simp at hk he
  exact hn k i (by omega) hi (by omega) he

section
variable {L : Nat → Option PFunc} (hL : ∀ k f, LD k = some f → L k = some f)
include hL

theorem law_distinct (l : List Str) (o : Bool) (h : List PObj) : callL L 17 [.list o (l.map .str)] h = some (.bool (distinct l), h) := by
  have hLc : ∀ k f, Lc k = some f → L k = some f := fun k f hk => hL k f (LD_c k f hk)
  refine callL_wp (hL 17 _ rfl) rfl ?_
  by_cases h1 : 30 < l.length
  · have h1' : (30 : Int) < l.length := by omega
    have : distinct l = false := by simp [distinct]; omega
    simp [f_law43_distinct, h1', this]
  · have h1' : ¬ (30 : Int) < l.length := by omega
    generalize hE : distinct l = E
    simp [f_law43_distinct, h1']
    refine loop_upd l.length (fun i => ident (l.getD i []) && decide (l.getD i [] ∉ l.take i)) (fun i (x : PV) => [(2, .int .i64 i), (3, x)]) (fun _ _ => h) .dead ?_ ?_ ?_ rfl rfl
    · intro i hi hz x ih
      have hw := wrap_succ i (by omega)
      simp only [List.getD, List.getElem?_eq_getElem hi, Option.getD_some, Bool.and_eq_true, decide_eq_true_eq] at hz
      have hid := ref_ident hLc l[i] []
      simp [hi, hid, hz.1]
      refine loop_upd i (fun _ => true) (fun k (x : Unit) => [(3, .int .i64 k)]) (fun _ _ => h) () ?_ ?_ ?_ rfl rfl
      · intro k hk _ x ih2
        have hw2 := wrap_succ k (by omega)
        have hkl : k < l.length := by omega
        have hne : ¬ l[k] = l[i] := by
          intro e
          apply hz.2
          rw [← e, List.mem_iff_getElem]
          exact ⟨k, by simp; omega, by simp⟩
        simp [hk, hi, hkl, hne, hw2]
        simpa using ih2 ()
      · intro k _ hz2; simp at hz2
      · intro _ x
        simp [hw]
        simpa using ih _
    · intro i hi hz hk x
      simp only [List.getD, List.getElem?_eq_getElem hi, Option.getD_some] at hz
      have hid := ref_ident hLc l[i] []
      have hd : E = false := by
        rw [← hE]
        unfold distinct
        cases hx : ident l[i] with
        | false =>
          have : l.all ident = false := by rw [List.all_eq_false]; exact ⟨_, List.getElem_mem hi, by simp [hx]⟩
          simp [this]
        | true =>
          rw [hx] at hz
          simp at hz
          simp [nodup_not hi hz]
      subst hd
      by_cases e1 : ident l[i] = true
      · rw [e1] at hz
        simp only [Bool.true_and, decide_eq_false_iff_not, Decidable.not_not] at hz
        obtain ⟨j, hj, he⟩ := List.mem_iff_getElem.1 hz
        simp at hj he
        have hj1 : j < i := by omega
        have hj2 : j < l.length := by omega
        simp [hi, hid, e1]
        refine loop_upd i (fun k => decide (¬ l.getD k [] = l[i])) (fun k (x : Unit) => [(3, .int .i64 k)]) (fun _ _ => h) () ?_ ?_ ?_ rfl rfl
        · intro k hk hz2 x ih2
          have hw2 := wrap_succ k (by omega)
          have hkl : k < l.length := by omega
          simp [List.getD, hkl] at hz2
          simp [hk, hi, hkl, hz2, hw2]
          simpa using ih2 ()
        · intro k hk hz2 _ x
          have hkl : k < l.length := by omega
          simp [List.getD, hkl] at hz2
          simp [hk, hi, hkl, hz2]
        · intro hz2 x
          exfalso
          have := hz2 j hj1
          simp [List.getD, hj2] at this
          exact this he
      · have e1' : ident l[i] = false := by simpa using e1
        simp [hi, hid, e1']
    · intro hz x
      have hd : E = true := by
        rw [← hE]
        unfold distinct
        have a1 : l.all ident = true := by
          rw [List.all_eq_true]
          intro y hy
          obtain ⟨k, hk, rfl⟩ := List.mem_iff_getElem.1 hy
          have := hz k hk
          simp [List.getD, hk] at this
          exact this.1
        have a2 : l.Nodup := nodup_steps (fun i hi => by
          have := hz i hi
          simp [List.getD, hi] at this
          exact this.2)
        simp [a1, a2]; omega
      subst hd
      simp

theorem law_named (en : List Enum) (o : Bool) (h : List PObj) : callL L 4 [.list o (en.map eEnum)] h = some (.bool (named en), h) := by
  refine callL_wp (hL 4 _ rfl) rfl ?_
  generalize hE : named en = E
  simp [f_law43_named]
  obtain ⟨acc, hacc⟩ : ∃ acc : Nat → List Str, ∀ r, acc r = (en.take r).map (·.name) := ⟨_, fun _ => rfl⟩
  have ha0 : acc 0 = [] := by rw [hacc]; rfl
  refine loop_upd (min en.length 40) (fun i => distinct (en.getD i default).tags) (fun i (x : Unit) => [(2, .list true ((acc i).map .str)), (3, .int .i64 i)]) (fun _ _ => h) () ?_ ?_ ?_ (by rw [ha0]; rfl) rfl
  · intro i hi hz x ih
    have hi1 : i < en.length := by omega
    have hi2 : (i : Int) < 40 := by omega
    have hi3 : i < 40 := by omega
    have hw := wrap_succ i (by omega)
    simp only [List.getD, List.getElem?_eq_getElem hi1, Option.getD_some] at hz
    have hd := law_distinct hL en[i].tags false []
    have hb : (acc i).length ≤ 2147483647 := by rw [hacc]; simp; omega
    have hts : acc (i + 1) = acc i ++ [en[i].name] := by rw [hacc, hacc, take_succ' hi1]; simp only [List.map_append, List.map_cons, List.map_nil]
    simp [hi1, hi2, hi3, hd, hz, hb, hw]
    have := ih ()
    rw [hts] at this
    simpa using this
  · intro i hi hz hk x
    have hi1 : i < en.length := by omega
    have hi2 : (i : Int) < 40 := by omega
    have hi3 : i < 40 := by omega
    simp only [List.getD, List.getElem?_eq_getElem hi1, Option.getD_some] at hz
    have hd := law_distinct hL en[i].tags false []
    have hb : (acc i).length ≤ 2147483647 := by rw [hacc]; simp; omega
    have he : E = false := by
      rw [← hE]
      unfold named
      have : (en.take 40).all (fun u => distinct u.tags) = false := by
        rw [List.all_eq_false]
        refine ⟨en[i], ?_, by simp [hz]⟩
        rw [List.mem_iff_getElem]
        exact ⟨i, by simp; omega, by simp⟩
      rw [this]; rfl
    subst he
    simp [hi1, hi2, hi3, hd, hz, hb]
  · intro hz x
    have htk : acc (min en.length 40) = (en.take 40).map (·.name) := by
      rw [hacc]
      congr 1
      rw [Nat.min_comm, ← List.take_take]; simp
    have hd := law_distinct hL ((en.take 40).map (·.name)) false []
    have he : E = distinct ((en.take 40).map (·.name)) := by
      rw [← hE]
      unfold named
      have : (en.take 40).all (fun u => distinct u.tags) = true := by
        rw [List.all_eq_true]
        intro u hu
        obtain ⟨k, hk, rfl⟩ := List.mem_iff_getElem.1 hu
        simp at hk
        have := hz k (by omega)
        have hk2 : k < en.length := by omega
        simpa [List.getD, hk2] using this
      rw [this]; rfl
    subst he
    rw [htk]
    generalize (en.take 40).map (·.name) = ns at *
    by_cases hlt : en.length < 40
    · have h1 : ¬ ((min en.length 40 : Nat) : Int) < en.length := by omega
      simp [h1, hd]
    · have hm : min en.length 40 = 40 := by omega
      rw [hm]
      by_cases h40 : (40 : Int) < en.length
      · simp [h40, hd]
      · simp [h40, hd]
end
end PI.Tr
