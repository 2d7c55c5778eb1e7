/- Zv: places inside an owned value: following a path, and putting another value there. No condition. -/
import Derived.Test.YtdddbifjkkhpbaaGreatDoorZvRep
namespace Go.Zv
open Go

/-- The path p leads from v (which stands for x) to u (which stands for X), through owned containers. -/
inductive Follow (w : World) : Value → V → Path → Value → V → Prop
  | nil (v : Value) (x : V) : Follow w v x [] v x
  | own {b o m c k i j : Nat} {n : Bool} {rows : List (List V)} {v' u : Value} {X : V} {p : Path} : i < rows.length → j < k →
      w.cell? ⟨b, o + (i * k + j), none⟩ = some v' → Follow w v' ((rows.getD i []).getD j .undef) p u X →
      Follow w (.slice (some ⟨b, o, none⟩) m c) (.own n k rows) ((i, j) :: p) u X
  | box {b j : Nat} {cells : List V} {v' u : Value} {X : V} {p : Path} : j < cells.length →
      w.cell? ⟨b, j, none⟩ = some v' → Follow w v' (cells.getD j .undef) p u X →
      Follow w (.pointer (some ⟨b, 0, none⟩)) (.obox cells) ((0, j) :: p) u X

theorem Follow.get {w : World} {v u : Value} {x X : V} {p : Path} (h : Follow w v x p u X) : X = getP x p := by
  induction h with
  | nil => rfl
  | own _ _ _ _ ih => simpa [getP, cellAt] using ih
  | box _ _ _ ih => simpa [getP, cellAt] using ih

theorem Follow.fun {w : World} {v u u' : Value} {x X X' : V} {p : Path} (h : Follow w v x p u X) (h' : Follow w v x p u' X') : u = u' ∧ X = X' := by
  induction h with
  | nil => cases h'; exact ⟨rfl, rfl⟩
  | own _ _ hc _ ih =>
    cases h' with
    | own _ _ hc' h' => rw [hc] at hc'; cases hc'; exact ih h'
  | box _ hc _ ih =>
    cases h' with
    | box _ hc' h' => rw [hc] at hc'; cases hc'; exact ih h'

/-! ### Rows in a flat list -/
theorem flatten_length {k : Nat} : ∀ {rows : List (List V)}, (∀ r ∈ rows, r.length = k) → rows.flatten.length = rows.length * k
  | [], _ => by simp
  | r :: rows, h => by
    simp only [List.flatten_cons, List.length_append, List.length_cons]
    rw [flatten_length (fun r hr => h r (by simp [hr])), h r (by simp), Nat.add_mul, Nat.one_mul, Nat.add_comm]
theorem flatten_getD {k : Nat} : ∀ {rows : List (List V)} {i j : Nat}, (∀ r ∈ rows, r.length = k) → i < rows.length → j < k →
    rows.flatten.getD (i * k + j) .undef = (rows.getD i []).getD j .undef
  | [], i, j, _, hi, _ => by simp at hi
  | r :: rows, 0, j, h, _, hj => by
    have : r.length = k := h r (by simp)
    simp [List.getD_eq_getElem?_getD, List.getElem?_append_left (show j < r.length by omega)]
  | r :: rows, i + 1, j, h, hi, hj => by
    have hr : r.length = k := h r (by simp)
    have e : (i + 1) * k + j = r.length + (i * k + j) := by rw [hr, Nat.add_mul]; omega
    have := flatten_getD (rows := rows) (i := i) (j := j) (fun r hr => h r (by simp [hr])) (by simpa using hi) hj
    simp only [List.getD_eq_getElem?_getD] at this ⊢
    simp only [List.flatten_cons, List.getElem?_cons_succ]
    rw [e, List.getElem?_append_right (by omega), Nat.add_sub_cancel_left]
    exact this
theorem set_uniform {k : Nat} {rows : List (List V)} {i : Nat} {r : List V} (h : ∀ r ∈ rows, r.length = k) (hr : i < rows.length → r.length = k) :
    ∀ r' ∈ rows.set i r, r'.length = k := by
  intro r' h'
  rcases List.mem_or_eq_of_mem_set h' with h1 | h1
  · exact h _ h1
  · subst h1
    rcases Nat.lt_or_ge i rows.length with h2 | h2
    · exact hr h2
    · rw [List.set_eq_of_length_le h2] at h'; exact h _ h'
theorem getD_mem {rows : List (List V)} {i : Nat} (h : i < rows.length) : rows.getD i [] ∈ rows := by
  rw [List.getD_eq_getElem?_getD, List.getElem?_eq_getElem h]; simp
theorem flatten_set {k : Nat} : ∀ {rows : List (List V)} {i j : Nat} {c : V}, (∀ r ∈ rows, r.length = k) → i < rows.length → j < k →
    (rows.set i ((rows.getD i []).set j c)).flatten = rows.flatten.set (i * k + j) c
  | [], i, j, c, _, hi, _ => by simp at hi
  | r :: rows, 0, j, c, h, _, hj => by
    have : r.length = k := h r (by simp)
    simp [List.set_append_left _ _ (show j < r.length by omega)]
  | r :: rows, i + 1, j, c, h, hi, hj => by
    have hr : r.length = k := h r (by simp)
    have e : (i + 1) * k + j = r.length + (i * k + j) := by rw [hr, Nat.add_mul]; omega
    have := flatten_set (rows := rows) (i := i) (j := j) (c := c) (fun r hr => h r (by simp [hr])) (by simpa using hi) hj
    simp only [List.getD_cons_succ, List.set_cons_succ, List.flatten_cons]
    rw [this, e, List.set_append_right _ _ (by omega), Nat.add_sub_cancel_left]
theorem flat_lt {k i j n : Nat} (hi : i < n) (hj : j < k) : i * k + j < n * k := by
  have := Nat.mul_le_mul_right k (show i + 1 ≤ n by omega)
  rw [Nat.add_mul] at this
  omega

/-- A row with one cell's value changed. -/
theorem Mem.put {S S' : Nat → Prop} {w w' : World} {b : Nat} {xs : List V} {o : Nat} {O1 O2 O3 O2' : List Nat} {j : Nat} {v : Value} {c : V}
    (hj : j < xs.length) (m1 : Mem S' w' b o (xs.take j) O1) (hc : w'.cell? ⟨b, o + j, none⟩ = some v) (hv : v.oneCell' = true) (hr : Rep S' w' v c O2') (m3 : Mem S' w' b (o + j + 1) (xs.drop (j + 1)) O3) :
    Mem S' w' b o (xs.set j c) (O1 ++ O2' ++ O3) := by
  have e : xs.set j c = xs.take j ++ (c :: xs.drop (j + 1)) := by
    rw [List.set_eq_take_append_cons_drop, if_pos hj]
  rw [e, List.append_assoc]
  have hl : (xs.take j).length = j := by simp; omega
  exact m1.append (.cons (by rw [hl]; exact hc) hv hr (by rw [hl]; exact m3))

/-- Roads through what an owned value holds stay where the memory that it owns stays. -/
theorem Follow.mono {S : Nat → Prop} {w w' : World} {v u : Value} {x X : V} {p : Path} (hf : Follow w v x p u X) :
    ∀ {O : List Nat}, Rep S w v x O → (∀ b ∈ O, w'.heap[b]? = w.heap[b]?) → Follow w' v x p u X := by
  induction hf with
  | nil v x => exact fun _ _ => .nil v x
  | @own b o m c k i j n rows v' u X p hi hj hc hf ih =>
    intro O h ho
    cases h with
    | own0 => simp at hi
    | @own _ _ _ _ _ _ O h1 h2 h3 h4 h5 h6 =>
    have hlt : i * k + j < rows.flatten.length := by rw [flatten_length h2]; exact flat_lt hi hj
    obtain ⟨O1, O2, O3, v1, e, hc1, hr, m1, m3, hv1⟩ := h6.at hlt
    rw [hc] at hc1; cases hc1
    rw [flatten_getD h2 hi hj] at hr
    exact .own hi hj (by rw [cell?_of_heap (ho b (by simp))]; exact hc) (ih hr fun b hb => ho b (by simp [e, hb]))
  | @box b j cells v' u X p hj hc hf ih =>
    intro O h ho
    cases h with
    | @obox _ _ O h1 h2 =>
    obtain ⟨O1, O2, O3, v1, e, hc1, hr, m1, m3, hv1⟩ := h2.at hj
    simp only [Nat.zero_add] at hc1
    rw [hc] at hc1; cases hc1
    exact .box hj (by rw [cell?_of_heap (ho b (by simp))]; exact hc) (ih hr fun b hb => ho b (by simp [e, hb]))

/-- Row i of a container begins in block b at o. -/
inductive Base : Value → V → Nat → Nat → Nat → Prop
  | own {b o m c k i : Nat} {n : Bool} {rows : List (List V)} : i < rows.length → Base (.slice (some ⟨b, o, none⟩) m c) (.own n k rows) i b (o + i * k)
  | box {b : Nat} {cells : List V} : Base (.pointer (some ⟨b, 0, none⟩)) (.obox cells) 0 b 0
/-- The cell index lies in the rows of a container. -/
def InR : V → Nat → Prop
  | .own _ k _, j => j < k
  | .obox cells, j => j < cells.length
  | _, _ => False
def isSlice : V → Prop
  | .own _ _ _ | .sl _ _ _ | .nilsl => True
  | _ => False

/-- The same container, but for one cell's value. -/
def Like (X X' : V) : Prop := X' = X ∨ ∃ i j c, X' = setCellV X i j c ∧ (isSlice c → isSlice (cellAt X i j))
theorem isSlice_setCellV {x : V} {i j : Nat} {c : V} (h : isSlice (setCellV x i j c)) : isSlice x := by cases x <;> simp_all [setCellV, isSlice]
theorem isSlice_setP {x X' : V} {p : Path} (h : isSlice (setP x p X')) (hp : p ≠ []) : isSlice x := by
  cases p with
  | nil => exact absurd rfl hp
  | cons a p => exact isSlice_setCellV h
theorem Base.like {c : Value} {X X' : V} {i b o : Nat} (h : Base c X i b o) (hl : Like X X') : Base c X' i b o := by
  rcases hl with rfl | ⟨i0, j0, d, rfl, _⟩
  · exact h
  · cases h with
    | own h => exact .own (by simpa using h)
    | box => exact .box
theorem InR.like {X X' : V} {j : Nat} (h : InR X j) (hl : Like X X') : InR X' j := by
  rcases hl with rfl | ⟨i0, j0, d, rfl, _⟩
  · exact h
  · cases X <;> simp_all [InR, setCellV]

/-- What a container owns begins with its own block. -/
theorem Base.owned {S : Nat → Prop} {w : World} {c : Value} {X : V} {i b o : Nat} {O : List Nat} (h : Base c X i b o) (hr : Rep S w c X O) : b ∈ O := by
  cases h with
  | own hi => cases hr with
    | own0 => simp at hi
    | own => simp
  | box => cases hr with
    | obox => simp

theorem getD_set_ne' {rows : List (List V)} {i j i2 j2 k : Nat} {c : V} (hu : ∀ r ∈ rows, r.length = k) (hi : i < rows.length) (hi2 : i2 < rows.length) (hj : j < k) (hj2 : j2 < k)
    (hne : i2 * k + j2 ≠ i * k + j) : ((rows.set i ((rows.getD i []).set j c)).getD i2 []).getD j2 .undef = (rows.getD i2 []).getD j2 .undef := by
  have h1 := flatten_getD (rows := rows.set i ((rows.getD i []).set j c)) (i := i2) (j := j2) (set_uniform hu fun _ => by simpa using hu _ (getD_mem hi)) (by simpa using hi2) hj2
  have h2 := flatten_getD (i := i2) (j := j2) hu hi2 hj2
  rw [← h1, ← h2, flatten_set hu hi hj]
  simp only [List.getD_eq_getElem?_getD]
  rw [List.getElem?_set_ne (Ne.symm hne)]
theorem getD_set_eq' {rows : List (List V)} {i j k : Nat} {c : V} (hu : ∀ r ∈ rows, r.length = k) (hi : i < rows.length) (hj : j < k) :
    ((rows.set i ((rows.getD i []).set j c)).getD i []).getD j .undef = c := by
  have hr := hu _ (getD_mem hi)
  simp only [List.getD_eq_getElem?_getD] at hr ⊢
  rw [List.getElem?_set_self hi]
  simp [hr, hj]
theorem getD_take {xs : List V} {n m : Nat} (h : n < m) : (xs.take m).getD n .undef = xs.getD n .undef := by
  simp [List.getD_eq_getElem?_getD, List.getElem?_take_of_lt h]
theorem getD_drop {xs : List V} {n m : Nat} : (xs.drop m).getD n .undef = xs.getD (m + n) .undef := by
  simp [List.getD_eq_getElem?_getD]

/-- The cell at another index owns what lies beside. -/
theorem Mem.beside {S : Nat → Prop} {w : World} {b : Nat} {xs : List V} {o : Nat} {O1 O3 : List Nat} {j j2 : Nat} (hj2 : j2 < xs.length) (hne : j2 ≠ j)
    (m1 : Mem S w b o (xs.take j) O1) (m3 : Mem S w b (o + j + 1) (xs.drop (j + 1)) O3) :
    ∃ v O2, w.cell? ⟨b, o + j2, none⟩ = some v ∧ Rep S w v (xs.getD j2 .undef) O2 ∧ ∀ c ∈ O2, c ∈ O1 ∨ c ∈ O3 := by
  rcases Nat.lt_or_ge j2 j with h | h
  · obtain ⟨P1, P2, P3, v, e, hc, hr, _, _, _⟩ := m1.at (j := j2) (by simp; omega)
    exact ⟨v, P2, hc, by rwa [getD_take h] at hr, fun c hc => .inl (by simp [e, hc])⟩
  · obtain ⟨P1, P2, P3, v, e, hc, hr, _, _, _⟩ := m3.at (j := j2 - (j + 1)) (by simp; omega)
    have e2 : o + j + 1 + (j2 - (j + 1)) = o + j2 := by omega
    have e3 : j + 1 + (j2 - (j + 1)) = j2 := by omega
    rw [e2] at hc
    rw [getD_drop, e3] at hr
    exact ⟨v, P2, hc, hr, fun c hc => .inr (by simp [e, hc])⟩

theorem Rep.focusA {S : Nat → Prop} {w : World} {v u : Value} {x X : V} {p : Path} (hf : Follow w v x p u X) :
    ∀ {O : List Nat}, Rep S w v x O → ∃ A OX B, O = A ++ OX ++ B ∧ Rep S w u X OX ∧ True := by
  induction hf with
  | nil v x => exact fun {O} h => ⟨[], O, [], by simp, h, trivial⟩
  | @own b o m c k i j n rows v' u X p hi hj hc hf ih =>
    intro O h
    cases h with
    | own0 => simp at hi
    | @own _ _ _ _ _ _ O h1 h2 h3 h4 h5 h6 =>
    have hlt : i * k + j < rows.flatten.length := by rw [flatten_length h2]; exact flat_lt hi hj
    obtain ⟨O1, O2, O3, v1, e, hc1, hr, m1, m3, hv1⟩ := h6.at hlt
    rw [hc] at hc1; cases hc1
    rw [flatten_getD h2 hi hj] at hr
    obtain ⟨A, OX, B, e2, hX, _⟩ := ih hr
    exact ⟨b :: (O1 ++ A), OX, B ++ O3, by simp [e, e2], hX, trivial⟩
  | @box b j cells v' u X p hj hc hf ih =>
    intro O h
    cases h with
    | @obox _ _ O h1 h2 =>
    obtain ⟨O1, O2, O3, v1, e, hc1, hr, m1, m3, hv1⟩ := h2.at hj
    simp only [Nat.zero_add] at hc1
    rw [hc] at hc1; cases hc1
    obtain ⟨A, OX, B, e2, hX, _⟩ := ih hr
    exact ⟨b :: (O1 ++ A), OX, B ++ O3, by simp [e, e2], hX, trivial⟩

/-- **The value in a place can be exchanged.** -/
theorem Rep.focus {S : Nat → Prop} {w : World} {v u : Value} {x X : V} {p : Path} (hf : Follow w v x p u X) :
    ∀ {O : List Nat}, Rep S w v x O → ∃ A OX B, O = A ++ OX ++ B ∧ Rep S w u X OX ∧
      ∀ (S' : Nat → Prop) (w' : World) (X' : V) (OX' : List Nat), (∀ b, S b → S' b) → (∀ b, S b → w'.heap[b]? = w.heap[b]?) → (∀ b, b ∈ A ∨ b ∈ B → w'.heap[b]? = w.heap[b]?) →
        (Rep S' w' u X' OX' → (OX = [] → OX' = []) → Rep S' w' v (setP x p X') (A ++ OX' ++ B)) ∧
        ((isSlice X' → isSlice X) → ∀ p2 u2 X2, Follow w v x p2 u2 X2 → p2.length ≤ p.length → ∃ X2', Follow w' v (setP x p X') p2 u2 X2' ∧
          ((Like X2 X2' ∧ ∀ i b o, Base u2 X2 i b o → w'.heap[b]? = w.heap[b]?) ∨ (p2 = p ∧ X2' = X'))) := by
  induction hf with
  | nil v x =>
    refine fun {O} h => ⟨[], O, [], by simp, h, fun S' w' X' OX' _ _ _ => ⟨fun h' _ => by simpa [setP] using h', fun _ p2 u2 X2 h2 hl => ?_⟩⟩
    have : p2 = [] := by simpa using hl
    subst this
    cases h2
    exact ⟨X', by simpa [setP] using Follow.nil _ _, .inr ⟨rfl, rfl⟩⟩
  | @own b o m c k i j n rows v' u X p hi hj hc hf ih =>
    intro O h
    cases h with
    | own0 => simp at hi
    | @own _ _ _ _ _ _ O h1 h2 h3 h4 h5 h6 =>
    have h2' := h2
    have hlt : i * k + j < rows.flatten.length := by rw [flatten_length h2]; exact flat_lt hi hj
    obtain ⟨O1, O2, O3, v1, e, hc1, hr, m1, m3, hv1⟩ := h6.at hlt
    rw [hc] at hc1; cases hc1
    rw [flatten_getD h2 hi hj] at hr
    obtain ⟨A, OX, B, e2, hX, hput⟩ := ih hr
    refine ⟨b :: (O1 ++ A), OX, B ++ O3, by simp [e, e2], hX, fun S' w' X' OX' hS hs ho => ?_⟩
    have hb : w'.heap[b]? = w.heap[b]? := ho b (by simp)
    obtain ⟨hput1, hkeep⟩ := hput S' w' X' OX' hS hs (fun b hb => ho b (by rcases hb with h | h <;> simp [h]))
    have hcell : w'.cell? ⟨b, o + (i * k + j), none⟩ = some v' := by rw [cell?_of_heap hb]; exact hc
    refine ⟨fun hX' hne => ?_, fun hsl p2 u2 X2 h2 hl => ?_⟩
    case refine_2 =>
      cases h2 with
      | nil => exact ⟨_, .nil _ _, .inl ⟨.inr ⟨i, j, setP (cellAt (.own n k rows) i j) p X', rfl, fun hs => by
          by_cases hp : p = []
          · subst hp
            have hg := hf.get
            simp only [getP] at hg
            simp only [cellAt]
            rw [← hg]
            exact hsl hs
          · exact isSlice_setP hs hp⟩, fun i b' o h => by cases h; exact hb⟩⟩
      | @own _ _ _ _ _ i2 j2 _ _ v2 _ _ p2 hi2 hj2 hc2 hf2 =>
        have hlen : (rows.set i ((rows.getD i []).set j (setP ((rows.getD i []).getD j V.undef) p X'))).length = rows.length := by simp
        by_cases hij : i2 * k + j2 = i * k + j
        · obtain ⟨rfl, rfl⟩ : i2 = i ∧ j2 = j := by
            have h1 : (i2 * k + j2) / k = i2 := by rw [Nat.mul_comm, Nat.mul_add_div (by omega), Nat.div_eq_of_lt hj2]; simp
            have h2 : (i * k + j) / k = i := by rw [Nat.mul_comm, Nat.mul_add_div (by omega), Nat.div_eq_of_lt hj]; simp
            rw [hij, h2] at h1
            exact ⟨h1.symm, by subst h1; omega⟩
          rw [hc] at hc2; cases hc2
          obtain ⟨X2', hf', hL⟩ := hkeep hsl p2 u2 X2 hf2 (by simpa using hl)
          refine ⟨X2', ?_, hL.imp id fun ⟨h1, h2⟩ => ⟨by rw [h1], h2⟩⟩
          simp only [setP, setCellV, cellAt]
          exact .own (by rw [hlen]; exact hi) hj hcell (by rw [getD_set_eq' ‹_› hi hj]; exact hf')
        · obtain ⟨v3, O4, hc3, hr3, hsub⟩ := Mem.beside (j := i * k + j) (j2 := i2 * k + j2) (by rw [flatten_length h2']; exact flat_lt hi2 hj2) hij m1 m3
          rw [hc2] at hc3; cases hc3
          rw [flatten_getD h2' hi2 hj2] at hr3
          refine ⟨X2, ?_, .inl ⟨.inl rfl, fun i b' o' h => by
            obtain ⟨A', OX', B', e', hX', _⟩ := hr3.focusA hf2
            have := h.owned hX'
            exact ho b' (by rcases hsub b' (by simp [e', this]) with h | h <;> simp [h])⟩⟩
          simp only [setP, setCellV, cellAt]
          refine .own (by rw [hlen]; exact hi2) hj2 (by rw [cell?_of_heap hb]; exact hc2) ?_
          rw [getD_set_ne' h2' hi hi2 hj hj2 hij]
          exact hf2.mono hr3 fun b hb => ho b (by rcases hsub b hb with h | h <;> simp [h])
    have hnew := hput1 hX' hne
    have := Mem.put (S := S) (w := w) (O2 := O2) hlt (m1.mono hS hs (.inr hb) fun b hb => ho b (by simp [hb])) hcell hv1 hnew (m3.mono hS hs (.inr hb) fun b hb => ho b (by simp [hb]))
    rw [← flatten_set h2 hi hj] at this
    have hlen : (rows.set i ((rows.getD i []).set j (setP ((rows.getD i []).getD j V.undef) p X'))).length = rows.length := by simp
    have := Rep.own (S := S') (n := n) h1 (set_uniform h2 fun _ => by simpa using h2 _ (getD_mem hi)) (h3.of_heap hb) (by rw [hlen]; exact h4) (fun hn => by
      have h0 := h5 hn
      rw [e, e2] at h0
      have : O1 = [] ∧ O3 = [] ∧ A = [] ∧ B = [] ∧ OX = [] := by simp at h0; simp [h0]
      obtain ⟨rfl, rfl, rfl, rfl, h⟩ := this
      simp [hne h]) this
    rw [hlen] at this
    simpa [setP, setCellV, cellAt] using this
  | @box b j cells v' u X p hj hc hf ih =>
    intro O h
    cases h with
    | @obox _ _ O h1 h2 =>
    obtain ⟨O1, O2, O3, v1, e, hc1, hr, m1, m3, hv1⟩ := h2.at hj
    simp only [Nat.zero_add] at hc1
    rw [hc] at hc1; cases hc1
    obtain ⟨A, OX, B, e2, hX, hput⟩ := ih hr
    refine ⟨b :: (O1 ++ A), OX, B ++ O3, by simp [e, e2], hX, fun S' w' X' OX' hS hs ho => ?_⟩
    have hb : w'.heap[b]? = w.heap[b]? := ho b (by simp)
    obtain ⟨hput1, hkeep⟩ := hput S' w' X' OX' hS hs (fun b hb => ho b (by rcases hb with h | h <;> simp [h]))
    have hcell : w'.cell? ⟨b, 0 + j, none⟩ = some v' := by rw [Nat.zero_add, cell?_of_heap hb]; exact hc
    refine ⟨fun hX' hne => ?_, fun hsl p2 u2 X2 h2 hl => ?_⟩
    case refine_2 =>
      cases h2 with
      | nil => exact ⟨_, .nil _ _, .inl ⟨.inr ⟨0, j, setP (cellAt (.obox cells) 0 j) p X', rfl, fun hs => by
          by_cases hp : p = []
          · subst hp
            have hg := hf.get
            simp only [getP] at hg
            simp only [cellAt]
            rw [← hg]
            exact hsl hs
          · exact isSlice_setP hs hp⟩, fun i b' o h => by cases h; exact hb⟩⟩
      | @box _ j2 _ v2 _ _ p2 hj2 hc2 hf2 =>
        by_cases hij : j2 = j
        · subst hij
          rw [hc] at hc2; cases hc2
          obtain ⟨X2', hf', hL⟩ := hkeep hsl p2 u2 X2 hf2 (by simpa using hl)
          · refine ⟨X2', ?_, hL.imp id fun ⟨h1, h2⟩ => ⟨by rw [h1], h2⟩⟩
            simp only [setP, setCellV, cellAt]
            refine .box (by simpa using hj) (by rw [Nat.zero_add] at hcell; exact hcell) ?_
            rw [show (cells.set j2 (setP (cells.getD j2 V.undef) p X')).getD j2 V.undef = setP (cells.getD j2 V.undef) p X' by simp [List.getD_eq_getElem?_getD, hj]]
            exact hf'
        · obtain ⟨v3, O4, hc3, hr3, hsub⟩ := Mem.beside (j := j) (j2 := j2) hj2 hij m1 m3
          rw [Nat.zero_add, hc2] at hc3; cases hc3
          refine ⟨X2, ?_, .inl ⟨.inl rfl, fun i b' o' h => by
            obtain ⟨A', OX', B', e', hX', _⟩ := hr3.focusA hf2
            have := h.owned hX'
            exact ho b' (by rcases hsub b' (by simp [e', this]) with h | h <;> simp [h])⟩⟩
          simp only [setP, setCellV, cellAt]
          refine .box (by simpa using hj2) (by rw [cell?_of_heap hb]; exact hc2) ?_
          rw [show (cells.set j (setP (cells.getD j V.undef) p X')).getD j2 V.undef = cells.getD j2 V.undef by simp [List.getD_eq_getElem?_getD, List.getElem?_set_ne (Ne.symm hij)]]
          exact hf2.mono hr3 fun b hb => ho b (by rcases hsub b hb with h | h <;> simp [h])
    have hnew := hput1 hX' hne
    have := Mem.put (S := S) (w := w) (O2 := O2) hj (m1.mono hS hs (.inr hb) fun b hb => ho b (by simp [hb])) hcell hv1 hnew (m3.mono hS hs (.inr hb) fun b hb => ho b (by simp [hb]))
    have := Rep.obox (S := S') (by simpa using h1.of_heap hb) this
    simpa [setP, setCellV, cellAt] using this

end Go.Zv
