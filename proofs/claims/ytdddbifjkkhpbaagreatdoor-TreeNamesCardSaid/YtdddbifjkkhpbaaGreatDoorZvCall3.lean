/- Zv: calls: what was lent comes back. No condition. -/
import Derived.Test.YtdddbifjkkhpbaaGreatDoorZvCall2
namespace Go.Zv
open Go

section
variable {R : Type} {P : Program} {E : Env} {r : R} {K : List V → Option R} {S S' : Nat → Prop} {who who' : Nat → Option Nat} {w w' : World} {a : Act} {dst : Option Nat} {σ σ' : List V}

/-- How a lent root comes back. -/
def backOf : List V → List V → Nat → Option V
  | x :: xs, y :: ys, i => match x with
    | .ptr r _ | .ref r _ => if r = i then some y else backOf xs ys i
    | _ => backOf xs ys i
  | _, _, _ => none
/-- Is a value a road that is dropped? -/
def cutBy : List V → V → Bool
  | [], _ => false
  | .ptr r _ :: xs, v => gone true r 1 v || cutBy xs v
  | .ref r _ :: xs, v => gone false r 0 v || cutBy xs v
  | _ :: xs, v => cutBy xs v

theorem gone_undef {sl : Bool} {r d : Nat} : gone sl r d .undef = false := by cases sl <;> rfl
theorem cut_undef : ∀ xs : List V, cutBy xs .undef = false
  | [] => rfl
  | x :: xs => by cases x <;> simp [cutBy, gone_undef, cut_undef xs]
theorem cut_cont : ∀ {xs : List V} {v : V}, Cont v = true → cutBy xs v = false
  | [], _, _ => rfl
  | x :: xs, v, h => by
    have hg : ∀ {sl : Bool} {r d : Nat}, gone sl r d v = false := fun {sl r d} => by
      cases e : gone sl r d v with
      | false => rfl
      | true => rw [(gone_free e).1] at h; cases h
    cases x <;> simp [cutBy, hg, cut_cont (xs := xs) h]

theorem restore_gt : ∀ {xs ys : List V} {σ σ' : List V}, restore xs ys σ = some σ' → distinct (lent xs) = true → (∀ r ∈ lent xs, r < σ.length) →
    σ'.length = σ.length ∧ ∀ i, gt σ' i = match backOf xs ys i with
      | some y => y
      | none => cond (cutBy xs (gt σ i)) .undef (gt σ i)
  | [], ys, σ, σ', hs, _, _ => by
    simp only [restore, Option.some.injEq] at hs
    subst hs
    exact ⟨rfl, fun i => by simp [backOf, cutBy]⟩
  | x :: xs, [], σ, σ', hs, _, _ => by simp [restore] at hs
  | x :: xs, y :: ys, σ, σ', hs, hd, hlt => by
    have step : ∀ {sl : Bool} {r d : Nat}, lent (x :: xs) = r :: lent xs → Cont y = true → (∀ i, backOf (x :: xs) (y :: ys) i = if r = i then some y else backOf xs ys i) → (∀ v, cutBy (x :: xs) v = (gone sl r d v || cutBy xs v)) →
        restore xs ys ((stored sl r d σ).set r y) = some σ' → σ'.length = σ.length ∧ ∀ i, gt σ' i = match backOf (x :: xs) (y :: ys) i with
          | some y => y
          | none => cond (cutBy (x :: xs) (gt σ i)) .undef (gt σ i) := by
      intro sl r d hl hy hb hc hs
      rw [hl] at hd hlt
      simp only [distinct, Bool.and_eq_true] at hd
      have hlen : ((stored sl r d σ).set r y).length = σ.length := by rw [List.length_set, stored_length]
      obtain ⟨h1, h2⟩ := restore_gt hs hd.2 (fun r' hr' => by rw [hlen]; exact hlt r' (by simp [hr']))
      refine ⟨by rw [h1, hlen], fun i => ?_⟩
      have hrl : r < σ.length := hlt r (by simp)
      rw [h2 i, hb i, gt_set, stored_length, gt_stored]
      by_cases hri : r = i
      · subst hri
        rw [if_pos rfl, if_pos ⟨rfl, hrl⟩]
        have hnone : backOf xs ys r = none := by
          have hnot : r ∉ lent xs := by
            intro hc
            have := hd.1
            rw [List.contains_iff_mem.2 hc] at this; cases this
          have : ∀ {xs ys : List V}, r ∉ lent xs → backOf xs ys r = none := by
            intro xs
            induction xs with
            | nil => intro ys _; cases ys <;> rfl
            | cons z xs ih =>
              intro ys hn
              cases ys with
              | nil => rfl
              | cons y ys =>
                cases z <;> simp only [backOf, lent, List.mem_cons, not_or] at hn ⊢ <;> first
                  | exact ih hn
                  | (rw [if_neg (Ne.symm hn.1)]; exact ih hn.2)
          exact this hnot
        rw [hnone]
        simp only [cut_cont hy, cond_false]
      · rw [if_neg hri, if_neg (fun h => hri h.1)]
        cases hbo : backOf xs ys i with
        | some z => rfl
        | none =>
          rw [hc]
          cases hg : gone sl r d (gt σ i) with
          | true => simp [cut_undef]
          | false => simp
    cases x
    case ptr r p =>
      cases y <;> first | (simp only [restore] at hs; cases hs; done) | skip
      case obox cells => exact step (sl := true) (r := r) (d := 1) rfl rfl (fun _ => rfl) (fun _ => rfl) (by simpa [restore] using hs)
    case ref r p =>
      cases y <;> first | (simp only [restore] at hs; cases hs; done) | skip
      case own n k rows => exact step (sl := false) (r := r) (d := 0) rfl rfl (fun _ => rfl) (fun _ => rfl) (by simpa [restore] using hs)
    all_goals
      obtain ⟨h1, h2⟩ := restore_gt (xs := xs) (ys := ys) (by simpa [restore] using hs) (by simpa [lent] using hd) (by simpa [lent] using hlt)
      exact ⟨h1, fun i => by rw [h2 i]; rfl⟩

/-- Is a root lent, and as what? -/
def BackCase (σ0 xs ys : List V) (i : Nat) : Prop :=
    (i ∈ lent xs ∧ ∃ Y, backOf xs ys i = some Y ∧
      ((∃ cells cells', gt σ0 i = .obox cells ∧ Y = .obox cells' ∧ ∀ v, cutBy xs v = false → gone true i 1 v = false) ∨
       (∃ n k rows n' k' rows', gt σ0 i = .own n k rows ∧ Y = .own n' k' rows' ∧ ∀ v, cutBy xs v = false → gone false i 0 v = false))) ∨
    (i ∉ lent xs ∧ backOf xs ys i = none)
theorem restore_cases {σ0 : List V} : ∀ {xs ys : List V} {σ σ' : List V}, restore xs ys σ = some σ' → heldIn σ0 xs = true → ∀ i, BackCase σ0 xs ys i
  | [], ys, σ, σ', hs, hh, i => .inr ⟨by simp [lent], by cases ys <;> rfl⟩
  | x :: xs, [], σ, σ', hs, hh, i => by simp [restore] at hs
  | x :: xs, y :: ys, σ, σ', hs, hh, i => by
    have hh' := hh
    simp only [heldIn, List.all_cons, Bool.and_eq_true] at hh
    obtain ⟨hx, hh⟩ := hh
    have cutR : ∀ v, cutBy (x :: xs) v = false → cutBy xs v = false := by
      intro v hv
      cases x <;> simp only [cutBy, Bool.or_eq_false_iff] at hv <;> first | exact hv | exact hv.2
    have rest : ∀ {σ1 : List V}, restore xs ys σ1 = some σ' → backOf (x :: xs) (y :: ys) i = backOf xs ys i → (i ∈ lent (x :: xs) ↔ i ∈ lent xs) → BackCase σ0 (x :: xs) (y :: ys) i := fun {σ1} h1 h2 h3 => by
      rcases restore_cases h1 hh i with ⟨g1, Y, g2, g3⟩ | ⟨g1, g2⟩
      · refine .inl ⟨h3.2 g1, Y, by rw [h2]; exact g2, ?_⟩
        rcases g3 with ⟨c, c', e1, e2, e3⟩ | ⟨n, k, rows, n', k', rows', e1, e2, e3⟩
        · exact .inl ⟨c, c', e1, e2, fun v hv => e3 v (cutR v hv)⟩
        · exact .inr ⟨n, k, rows, n', k', rows', e1, e2, fun v hv => e3 v (cutR v hv)⟩
      · exact .inr ⟨fun h => g1 (h3.1 h), by rw [h2]; exact g2⟩
    cases x
    case ptr r p =>
      cases y <;> first | (simp only [restore] at hs; cases hs; done) | skip
      case obox cells' =>
        by_cases hri : r = i
        · subst hri
          dsimp only at hx
          cases hg : gt σ0 r <;> rw [hg] at hx <;> first | (cases hx; done) | skip
          case obox cells =>
            refine .inl ⟨by simp [lent], _, by simp [backOf], .inl ⟨cells, cells', hg, rfl, fun v hv => ?_⟩⟩
            simp only [cutBy, Bool.or_eq_false_iff] at hv
            exact hv.1
        · exact rest (by simpa [restore] using hs) (by simp [backOf, hri]) (by simp [lent, Ne.symm hri])
    case ref r p =>
      cases y <;> first | (simp only [restore] at hs; cases hs; done) | skip
      case own n' k' rows' =>
        by_cases hri : r = i
        · subst hri
          dsimp only at hx
          cases hg : gt σ0 r <;> rw [hg] at hx <;> first | (cases hx; done) | skip
          case own n k rows =>
            refine .inl ⟨by simp [lent], _, by simp [backOf], .inr ⟨n, k, rows, n', k', rows', hg, rfl, fun v hv => ?_⟩⟩
            simp only [cutBy, Bool.or_eq_false_iff] at hv
            exact hv.1
        · exact rest (by simpa [restore] using hs) (by simp [backOf, hri]) (by simp [lent, Ne.symm hri])
    all_goals exact rest (by simpa [restore] using hs) rfl Iff.rfl

/-- Who owns what, behind a call. -/
def whoBack (xs : List V) (who wn : Nat → Option Nat) (b : Nat) : Option Nat :=
  match wn b with
  | some i => some i
  | none => match who b with
    | some r => if r ∈ lent xs then none else some r
    | none => none

/-- **What was lent comes back**: several roots are exchanged at once. -/
theorem Rel.swap {tm : Array Value} {xs ys : List V} {wn : Nat → Option Nat} (h : Rel E S who w tm σ) (hrest : restore xs ys σ = some σ') (hd : distinct (lent xs) = true) (hheld : heldIn σ xs = true)
    (hnew : ∀ i y, backOf xs ys i = some y → ∃ O, Rep S' w' (tm.getD i undef) y O ∧ O.Nodup ∧ ∀ b ∈ O, wn b = some i)
    (hwn : ∀ b i, wn b = some i → ¬ S' b ∧ b < w'.heap.size ∧ (who b = none ∨ ∃ r ∈ lent xs, who b = some r))
    (hkeep : ∀ b, b < w.heap.size → (∀ r ∈ lent xs, who b ≠ some r) → (S b ∨ who b ≠ none) → w'.heap[b]? = w.heap[b]?)
    (hsz : w.heap.size ≤ w'.heap.size) (hS : ∀ b, S b → S' b) (hS' : ∀ b, S' b → who b = none ∨ ∃ r ∈ lent xs, who b = some r) (hlow : ∀ b, S' b → b < w'.heap.size) :
    Rel E S' (whoBack xs who wn) w' tm σ' := by
  have hcase := restore_cases hrest hheld
  have hlt : ∀ r ∈ lent xs, r < σ.length := by
    intro r hr
    refine Nat.lt_of_not_le fun hc => ?_
    have h0 := gt_len hc
    rcases hcase r with ⟨_, Y, _, ⟨c, c', e, _⟩ | ⟨n, k, rows, n', k', rows', e, _⟩⟩ | ⟨g, _⟩
    · rw [e] at h0; cases h0
    · rw [e] at h0; cases h0
    · exact g hr
  obtain ⟨hlen, hgt⟩ := restore_gt hrest hd hlt
  have hSk : ∀ b, S b → w'.heap[b]? = w.heap[b]? := fun b hb => hkeep b (h.low b hb) (fun r _ => by rw [h.sep b hb]; simp) (.inl hb)
  have hownk : ∀ i b, i ∉ lent xs → who b = some i → w'.heap[b]? = w.heap[b]? := fun i b hi hb => hkeep b (h.lowO b i hb) (fun r hr e => by rw [hb] at e; cases e; exact hi hr) (.inr (by rw [hb]; simp))
  have hwho : ∀ b i, i ∉ lent xs → who b = some i → whoBack xs who wn b = some i := by
    intro b i hi hb
    unfold whoBack
    cases e : wn b with
    | some j =>
      rcases (hwn b j e).2.2 with h1 | ⟨r, hr, h1⟩
      · rw [hb] at h1; cases h1
      · rw [hb] at h1; cases h1; exact absurd hr hi
    | none => simp [hb, hi]
  -- roots
  have hroot : ∀ x, cutBy xs x = false → ∀ y ∈ links x, ∀ r q i j c Y, pathOf y = some (r, q ++ [(i, j)]) → Follow w (tm.getD r undef) (gt σ r) q c Y → Cont Y = true →
      ∃ Y', Follow w' (tm.getD r undef) (gt σ' r) q c Y' ∧ (∀ i b o, Base c Y i b o → Base c Y' i b o) ∧ (isRef y → CellKeep w w' c Y Y') := by
    intro x hx y hy r q i j c Y hp hfY hcY
    rcases hcase r with ⟨hr, Z, hZ, ⟨cells, cells', e1, e2, e3⟩ | ⟨n, k, rows, n', k', rows', e1, e2, e3⟩⟩ | ⟨hr, hn⟩
    · have hg := e3 x hx
      have hq := stale1_path (stale_links (gone_stale hg) y hy) hp
      have hq0 : q = [] := List.length_eq_zero_iff.1 (by omega)
      subst hq0
      rw [e1] at hfY
      obtain ⟨rfl, rfl⟩ : c = tm.getD r undef ∧ Y = .obox cells := by
        generalize tm.getD r undef = u0 at hfY ⊢
        cases hfY; exact ⟨rfl, rfl⟩
      refine ⟨Z, by rw [hgt r, hZ]; exact .nil _ _, fun i0 b o hb => ?_, fun hry => ?_⟩
      · rw [e2]
        generalize tm.getD r undef = u0 at hb ⊢
        cases hb; exact .box
      · have := refAt_links (gone_refAt rfl hg) y hy
        cases y <;> try exact hry.elim
        simp only [pathOf, Option.some.injEq, Prod.mk.injEq] at hp
        obtain ⟨rfl, rfl⟩ := hp
        simp [refAt1] at this
    · have hq := stale1_path (stale_links (gone_stale (e3 x hx)) y hy) hp
      omega
    · obtain ⟨P, hP, _, hoP⟩ := h.rep r
      have hall : ∀ b ∈ P, w'.heap[b]? = w.heap[b]? := fun b hb => hownk r b hr (hoP b hb)
      have hcr : Cont (gt σ r) = true := by
        cases q with
        | nil =>
          have : Y = gt σ r := by
            generalize tm.getD r undef = u0 at hfY
            generalize gt σ r = g0 at hfY ⊢
            cases hfY; rfl
          rw [← this]; exact hcY
        | cons z q => exact hfY.cont (by simp)
      have hg0 : gt σ' r = gt σ r := by rw [hgt r, hn]; simp [cut_cont hcr]
      refine ⟨Y, by rw [hg0]; exact hfY.mono hP hall, fun i b o hb => hb, fun _ => ⟨fun j hj => hj, fun i j b o hb hj hs => ⟨hs, ?_⟩⟩⟩
      obtain ⟨A', OX', B', e', hX0, _⟩ := hP.focusA hfY
      exact cell?_of_heap (hall b (by rw [e']; simp [hb.owned hX0]))
  have hroot0 : ∀ r, isSlice (gt σ' r) → isSlice (gt σ r) := by
    intro r hs
    rw [hgt r] at hs
    rcases hcase r with ⟨hr, Z, hZ, ⟨cells, cells', e1, e2, e3⟩ | ⟨n, k, rows, n', k', rows', e1, e2, e3⟩⟩ | ⟨hr, hn⟩
    · rw [hZ, e2] at hs; exact hs.elim
    · rw [e1]; trivial
    · rw [hn] at hs
      revert hs
      cases cutBy xs (gt σ r) with
      | false => exact id
      | true => exact fun h => h.elim
  refine ⟨by rw [hlen, h.size], fun i => ?_, fun b hb => ?_, hlow, fun b i hb => ?_, fun i => ?_, fun g cs hg => ?_⟩
  · rw [hgt i]
    rcases hcase i with ⟨hi, Z, hZ, _⟩ | ⟨hi, hn⟩
    · rw [hZ]
      obtain ⟨O, h1, h2, h3⟩ := hnew i Z hZ
      exact ⟨O, h1, h2, fun b hb => by simp [whoBack, h3 b hb]⟩
    · rw [hn]
      dsimp only
      cases cutBy xs (gt σ i) with
      | true => exact ⟨[], .undef _, by simp, by simp⟩
      | false =>
        obtain ⟨P, hP, hnP, hoP⟩ := h.rep i
        exact ⟨P, hP.mono hS hSk fun b hb => hownk i b hi (hoP b hb), hnP, fun b hb => hwho b i hi (hoP b hb)⟩
  · have hnone : wn b = none := by
      cases e : wn b with
      | none => rfl
      | some j => exact absurd hb (hwn b j e).1
    unfold whoBack
    rw [hnone]
    rcases hS' b hb with h1 | ⟨r, hr, h1⟩
    · rw [h1]
    · rw [h1]; simp [hr]
  · unfold whoBack at hb
    cases e : wn b with
    | some j => exact (hwn b j e).2.1
    | none =>
      rw [e] at hb
      cases e2 : who b with
      | none => rw [e2] at hb; cases hb
      | some j => exact Nat.lt_of_lt_of_le (h.lowO b j e2) hsz
  · rw [hgt i]
    rcases hcase i with ⟨hi, Z, hZ, ⟨cells, cells', e1, e2, e3⟩ | ⟨n, k, rows, n', k', rows', e1, e2, e3⟩⟩ | ⟨hi, hn⟩
    · rw [hZ, e2]; trivial
    · rw [hZ, e2]; trivial
    · rw [hn]
      dsimp only
      cases e : cutBy xs (gt σ i) with
      | true => exact link_undef ..
      | false => exact (h.link i).keep (hroot _ e) (fun y _ r0 _ => ⟨hroot0 r0, rfl⟩)
  · obtain ⟨h1, h2⟩ := h.glob g cs hg
    exact ⟨hS _ h1, h2.mono hS hSk (.inl h1) (by simp)⟩

end
end Go.Zv
