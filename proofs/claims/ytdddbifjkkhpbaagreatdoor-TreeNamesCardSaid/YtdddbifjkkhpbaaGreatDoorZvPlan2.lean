/- Zv: a plan that its check takes runs a drawn region in every order. No condition. -/
import Derived.Test.YtdddbifjkkhpbaaGreatDoorZvPlan
namespace Go.Zv
open Go

def preOf : List PStep → Nat → List Nat
  | [], _ => []
  | s :: rest, k => if s.i = k then s.pre else preOf rest k
def pairB (ops : Array Oper) : List PStep → Bool
  | [] => true
  | s :: rest => rest.all (fun t => (t.pre.contains s.i || disjS s t) && !Region.waitsFor .any ops s.i t.i) && pairB ops rest
def waitsB (ops : Array Oper) (tail : List Nat) (i : Nat) : Bool :=
  match ops[i]? with
  | some o => o.after.all fun e => !Region.binds .any e || (decide (e.on < ops.size) && !tail.contains e.on && !(e.on == i))
  | none => true
def stepB (ops : Array Oper) (pl : Plan) (s : PStep) : Bool :=
  !pl.tail.contains s.i && decide (s.i < ops.size) && (match ops[s.i]? with
    | some o => okStep s o
    | none => false) && waitsB ops pl.tail s.i && (preOf pl.steps s.i == s.pre) &&
  s.pre.all fun i => Region.waitsFor .any ops s.i i || (List.range ops.size).any fun k => Region.waitsFor .any ops s.i k && (preOf pl.steps k).contains i
def tailWaits (ops : Array Oper) (pl : Plan) (t : Nat) : Bool :=
  (List.range ops.size).any fun k => Region.waitsFor .any ops t k && (pl.tail.contains k || pl.steps.all fun s => s.i == k || (preOf pl.steps k).contains s.i)
def listedOf (n : Nat) (tail : List Nat) : Array Bool := (Array.range n).map fun k => !tail.contains k
def planB (ops : Array Oper) (pl : Plan) : Bool :=
  let l0 := Array.replicate ops.size false
  let l1 := listAll pl.first l0
  Region.noSelect ops && firstB ops pl.first l0 && pairB ops pl.steps && distinct (pl.steps.map (·.i)) &&
  (List.range ops.size).all (fun k => (!l1.getD k false) == ((pl.steps.map (·.i)).contains k || pl.tail.contains k)) &&
  pl.steps.all (stepB ops pl) && (List.range ops.size).all (fun k => !l1.getD k false || (preOf pl.steps k).isEmpty) &&
  pl.tail.all (tailWaits ops pl) && tailB ops pl.tail (listedOf ops.size pl.tail) && decide (pl.first.length + pl.steps.length + pl.tail.length = ops.size)

theorem listAll_size : ∀ {l : List Nat} {listed : Array Bool}, (listAll l listed).size = listed.size
  | [], _ => rfl
  | i :: l, listed => by simp [listAll, listAll_size (l := l)]
theorem distinct_nodup : ∀ {l : List Nat}, distinct l = true → l.Nodup
  | [], _ => List.nodup_nil
  | x :: l, h => List.nodup_cons.2 ⟨(distinct_cons h).1, distinct_nodup (distinct_cons h).2⟩
theorem pairB_spec {ops : Array Oper} : ∀ {l : List PStep}, pairB ops l = true → l.Pairwise fun s t => (t.pre.contains s.i = true ∨ disjS s t = true) ∧ Region.waitsFor .any ops s.i t.i = false
  | [], _ => .nil
  | s :: l, h => by
    simp only [pairB, Bool.and_eq_true, List.all_eq_true, Bool.or_eq_true, Bool.not_eq_true'] at h
    exact .cons (fun t ht => h.1 t ht) (pairB_spec h.2)
theorem waitsB_spec {ops : Array Oper} {tail : List Nat} {i : Nat} (h : waitsB ops tail i = true) {k : Nat} (hk : Region.waitsFor .any ops i k = true) : k < ops.size ∧ k ∉ tail ∧ k ≠ i := by
  obtain ⟨o, ho, e, he, hb, rfl⟩ := Region.waitsFor_spec hk
  unfold waitsB at h
  rw [ho] at h
  have := Array.all_eq_true_iff_forall_mem.1 h e he
  simp only [hb, Bool.not_true, Bool.false_or, Bool.and_eq_true, decide_eq_true_eq, Bool.not_eq_true', beq_eq_false_iff_ne, ne_eq] at this
  have h2 := this.1.2
  exact ⟨this.1.1, (fun hc => by rw [List.contains_iff_mem.2 hc] at h2; cases h2), this.2⟩
theorem waits_lt {ops : Array Oper} {i k : Nat} (h : Region.waitsFor .any ops i k = true) : i < ops.size := by
  obtain ⟨o, ho, _⟩ := Region.waitsFor_spec h
  exact (Array.getElem?_eq_some_iff.1 ho).1

section
variable {P : Program} {E : Env} {ops : Array Oper} {S0 : Nat → Prop} {who0 : Nat → Option Nat} {w0 : World} {a0 : Act} {Q : Exit → Act → World → Prop}

theorem plan_sound (hE : EnvOK P E) (hC : CallOK P E) {pl : Plan} (hB : planB ops pl = true) (hQ : ∀ c a w, ¬ Q (.panic c) a w) {R : Type} {r : R} {K : List V → Option R} {σ : List V} {a : Act} {w : World}
    (hs : (runIdx E ops pl.first σ fun σ1 => (runSteps E ops pl.steps σ1).bind fun σ2 => runIdx E ops pl.tail σ2 K) = some r) (hL : Led E S0 who0 w0 a0 σ a w)
    (HK : ∀ σ' a' w', K σ' = some r → Led E S0 who0 w0 a0 σ' a' w' → Q .normal a' w') : wpAny P .any ops Q ops.size (Array.replicate ops.size false) a w := by
  simp only [planB, Bool.and_eq_true, decide_eq_true_eq] at hB
  obtain ⟨⟨⟨⟨⟨⟨⟨⟨⟨hsel, hfirst⟩, hpair⟩, hdis⟩, hun⟩, hsteps⟩, hcl⟩, htw⟩, htail⟩, hlen⟩ := hB
  rw [show (Array.replicate ops.size false) = Array.replicate ops.size false from rfl]
  have hfuel : wpAny P .any ops Q (pl.first.length + (pl.steps.length + pl.tail.length)) (Array.replicate ops.size false) a w := by
    refine first_sound hE hC hsel hQ pl.first _ σ a w hfirst hs hL fun σ1 a1 w1 hs1 hL1 => ?_
    simp only [Option.bind_eq_some_iff] at hs1
    obtain ⟨σ2, hst, hs2⟩ := hs1
    have hsz : (listAll pl.first (Array.replicate ops.size false)).size = ops.size := by rw [listAll_size]; simp
    refine explore (pre := preOf pl.steps) hE hC (fun a' w' listed hls hlk hL2 => ?_) pl.steps.length pl.steps _ σ1 a1 w1 rfl ?_ hst hL1
    · -- the tail
      have : listed = listedOf ops.size pl.tail := by
        apply Array.ext (by simp [listedOf, hls])
        intro k h1 h2
        have hk : k < ops.size := by rw [← hls]; exact h1
        have h3 := hlk k hk
        simp only [Array.getD_eq_getD_getElem?, Array.getElem?_eq_getElem h1, Option.getD_some] at h3
        simp only [listedOf, Array.getElem_map, Array.getElem_range]
        cases e : listed[k] with
        | false => rw [List.contains_iff_mem.2 (h3.1 e)]; rfl
        | true =>
          cases e2 : pl.tail.contains k with
          | false => rfl
          | true => rw [h3.2 (List.contains_iff_mem.1 e2)] at e; cases e
      subst this
      have := tail_still hE hC hsel pl.tail _ σ2 a' htail hs2 hL2
      exact wpAny_of_still (fun a'' ⟨σ', g1, g2⟩ => HK σ' a'' w' g1 g2) _ _ _ this
    · simp only [List.all_eq_true] at hun hsteps hcl htw
      have hst : ∀ s ∈ pl.steps, (s.i ∉ pl.tail ∧ s.i < ops.size) ∧ (∀ o, ops[s.i]? = some o → okStep s o = true) ∧ waitsB ops pl.tail s.i = true ∧ preOf pl.steps s.i = s.pre ∧
          ∀ i ∈ s.pre, Region.waitsFor .any ops s.i i = true ∨ ∃ k, Region.waitsFor .any ops s.i k = true ∧ i ∈ preOf pl.steps k := by
        intro s hs
        have h := hsteps s hs
        simp only [stepB, Bool.and_eq_true, decide_eq_true_eq, Bool.not_eq_true', beq_iff_eq, List.all_eq_true, Bool.or_eq_true, List.any_eq_true] at h
        obtain ⟨⟨⟨⟨⟨h1, h2⟩, h3⟩, h4⟩, h5⟩, h6⟩ := h
        refine ⟨⟨(fun hc => by rw [List.contains_iff_mem.2 hc] at h1; cases h1), h2⟩, fun o ho => by rw [ho] at h3; exact h3, h4, h5, fun i hi => (h6 i hi).imp id fun ⟨k, _, g1, g2⟩ => ⟨k, g1, List.contains_iff_mem.1 g2⟩⟩
      refine ⟨hsz, pairB_spec hpair, distinct_nodup hdis, fun k hk => ?_, fun s hs => (hst s hs).1, fun s hs => (hst s hs).2.1, fun s hs k hk => waitsB_spec (hst s hs).2.2.1 hk,
        fun s hs => ⟨(hst s hs).2.2.2.1.symm, (hst s hs).2.2.2.2⟩, fun k hk i hi => ?_, fun t ht => ?_⟩
      · have h := hun k (List.mem_range.2 hk)
        simp only [beq_iff_eq] at h
        rw [← List.contains_iff_mem, ← List.contains_iff_mem]
        cases e : (listAll pl.first (Array.replicate ops.size false)).getD k false <;> rw [e] at h
        · simp only [Bool.not_false] at h
          have := h.symm
          rw [Bool.or_eq_true] at this
          exact ⟨fun _ => this, fun _ => rfl⟩
        · simp only [Bool.not_true] at h
          have := h.symm
          rw [Bool.or_eq_false_iff] at this
          refine ⟨(fun h => by cases h), fun h => ?_⟩
          rw [this.1, this.2] at h
          rcases h with h | h <;> cases h
      · by_cases hks : k < ops.size
        · have h := hcl k (List.mem_range.2 hks)
          rw [hk] at h
          simp only [Bool.not_true, Bool.false_or, List.isEmpty_iff] at h
          rw [h] at hi; cases hi
        · rw [Array.getD_eq_getD_getElem?, Array.getElem?_eq_none (by rw [hsz]; omega)] at hk
          cases hk
      · have h := htw t ht
        simp only [tailWaits, List.any_eq_true, Bool.and_eq_true, Bool.or_eq_true, List.all_eq_true, beq_iff_eq] at h
        obtain ⟨k, hk, h1, h2⟩ := h
        exact ⟨k, h1, List.mem_range.1 hk, h2.imp List.contains_iff_mem.1 fun h s hs => (h s hs).imp id List.contains_iff_mem.1⟩
  rwa [show pl.first.length + (pl.steps.length + pl.tail.length) = ops.size by omega] at hfuel
end
end Go.Zv
