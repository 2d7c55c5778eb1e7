/- Zv: a pure interpreter of the translated code over values, and that it is right. No condition. -/
import Derived.Test.YtloekbdlmikkcaaGreatDoorZvK6
import Derived.Shelf.SlSortCmp.WholeK
import Derived.Shelf.SlSortCmp.NoneTotal
import Derived.Sort.Walk0
set_option linter.unusedSimpArgs false
set_option linter.unusedVariables false
namespace Go.Zv
open Go Go.RowKit Go.Proofs
def keyV : List V → List UInt8
 | .str s :: _ => s
 | _ => []
def hasKey : List V → Bool
 | .str _ :: _ => true
 | _ => false
def nodupB : List (List UInt8) → Bool
 | [] => true
 | x :: xs => !xs.contains x && nodupB xs
def insR (r : List V) : List (List V) → List (List V)
 | [] => [r]
 | x :: xs => cond (Op.bytesLess (keyV x) (keyV r)) (x :: insR r xs) (r :: x :: xs)
def sortR : List (List V) → List (List V)
 | [] => []
 | r :: rs => insR r (sortR rs)
def primSort (g k : Nat) : List V → Option (V × List V)
 | [.own false k' rows, .fn g' []] => if k' = k ∧ g' = g ∧ rows.length ≤ lim ∧ rows.all hasKey = true ∧ nodupB (rows.map keyV) = true then some (.tup [], [.own false k (sortR rows), .ud]) else none
 | _ => none
theorem nodupB_iff : ∀ l : List (List UInt8), nodupB l = true ↔ l.Nodup
 | [] => by simp [nodupB]
 | x :: xs => by simp [nodupB, nodupB_iff xs]
theorem kcmp : ∀ (a b : List UInt8), (Lib.compareBytes a b < 0 ↔ a < b) ∧ (Lib.compareBytes a b = 0 ↔ a = b)
 | [], [] => by simp [Lib.compareBytes]
 | [], b :: v => by simp [Lib.compareBytes]
 | a :: u, [] => by simp [Lib.compareBytes]
 | a :: u, b :: v => by
  obtain ⟨h1, h2⟩ := kcmp u v
  unfold Lib.compareBytes
  by_cases h : a < b
  ·
   have hne : a ≠ b := fun e => by subst e; exact absurd h (UInt8.lt_irrefl a)
   rw [if_pos h, List.cons_lt_cons_iff]
   simp [h, hne]
  ·
   by_cases h' : b < a
   ·
    have hne : a ≠ b := fun e => by subst e; exact absurd h' (UInt8.lt_irrefl a)
    rw [if_neg h, if_pos h', List.cons_lt_cons_iff]
    simp [h, hne]
   ·
    have he : a = b := by
     have e1 : ¬ a.toNat < b.toNat := fun e => h (UInt8.lt_iff_toNat_lt.2 e)
     have e2 : ¬ b.toNat < a.toNat := fun e => h' (UInt8.lt_iff_toNat_lt.2 e)
     exact UInt8.toNat_inj.1 (by omega)
    subst he
    rw [if_neg h, if_neg h', List.cons_lt_cons_iff, h1, h2]
    simp [h]
theorem ktri : ∀ (a b : List UInt8), a < b ∨ a = b ∨ b < a
 | [], [] => .inr (.inl rfl)
 | [], b :: v => .inl (by simp)
 | a :: u, [] => .inr (.inr (by simp))
 | a :: u, b :: v => by
  simp only [List.cons_lt_cons_iff, List.cons.injEq]
  by_cases h : a < b
  ·
   exact .inl (.inl h)
  ·
   by_cases h' : b < a
   ·
    exact .inr (.inr (.inl h'))
   ·
    have he : a = b := by
     have e1 : ¬ a.toNat < b.toNat := fun e => h (UInt8.lt_iff_toNat_lt.2 e)
     have e2 : ¬ b.toNat < a.toNat := fun e => h' (UInt8.lt_iff_toNat_lt.2 e)
     exact UInt8.toNat_inj.1 (by omega)
    subst he
    rcases ktri u v with h1 | h1 | h1
    ·
     exact .inl (.inr ⟨rfl, h1⟩)
    ·
     exact .inr (.inl ⟨rfl, h1⟩)
    ·
     exact .inr (.inr (.inr ⟨rfl, h1⟩))
abbrev Up (l : List (List V)) : Prop := l.Pairwise fun x y => keyV x < keyV y
theorem insR_mem (r : List V) : ∀ {l : List (List V)} {x : List V}, x ∈ insR r l ↔ x = r ∨ x ∈ l
 | [], x => by simp [insR]
 | y :: l, x => by
  unfold insR
  cases Op.bytesLess (keyV y) (keyV r) with
  | true => simp only [cond_true, List.mem_cons, insR_mem r (l := l)]; exact ⟨fun h => h.elim (fun h => .inr (.inl h)) fun h => h.elim .inl fun h => .inr (.inr h), fun h => h.elim (fun h => .inr (.inl h)) fun h => h.elim .inl fun h => .inr (.inr h)⟩
  | false => simp
theorem insR_up {r : List V} : ∀ {l : List (List V)}, Up l → (∀ x ∈ l, keyV x ≠ keyV r) → Up (insR r l)
 | [], _, _ => by simp [insR]
 | y :: l, h, hn => by
  have h' := List.pairwise_cons.1 h
  unfold insR
  rw [bytesLess_eq]
  by_cases hl : keyV y < keyV r
  ·
   rw [decide_eq_true hl]
   refine List.pairwise_cons.2 ⟨fun x hx => ?_, insR_up h'.2 fun x hx => hn x (by simp [hx])⟩
   rcases (insR_mem r).1 hx with rfl | hx
   ·
    exact hl
   ·
    exact h'.1 x hx
  ·
   rw [decide_eq_false hl]
   have hr : keyV r < keyV y := ((ktri (keyV y) (keyV r)).resolve_left hl).resolve_left (hn y (by simp))
   refine List.pairwise_cons.2 ⟨fun x hx => ?_, h⟩
   rcases List.mem_cons.1 hx with rfl | hx
   ·
    exact hr
   ·
    exact List.lt_trans hr (h'.1 x hx)
theorem sortR_mem : ∀ {l : List (List V)} {x : List V}, x ∈ sortR l ↔ x ∈ l
 | [], x => by simp [sortR]
 | y :: l, x => by rw [sortR, insR_mem, sortR_mem, List.mem_cons]
theorem sortR_up : ∀ {l : List (List V)}, (l.map keyV).Nodup → Up (sortR l)
 | [], _ => by simp [sortR]
 | y :: l, h => by
  rw [List.map_cons, List.nodup_cons] at h
  refine insR_up (sortR_up h.2) fun x hx e => h.1 ?_
  rw [← e]
  exact List.mem_map.2 ⟨x, sortR_mem.1 hx, rfl⟩
theorem up_unique : ∀ {l l' : List (List V)}, Up l → Up l' → (∀ x, x ∈ l ↔ x ∈ l') → l = l'
 | [], [], _, _, _ => rfl
 | [], y :: l', _, _, h => by have := (h y).2 (by simp); cases this
 | x :: l, [], _, _, h => by have := (h x).1 (by simp); cases this
 | x :: l, y :: l', h1, h2, h => by
  have p1 := List.pairwise_cons.1 h1
  have p2 := List.pairwise_cons.1 h2
  have e : x = y := by
   rcases List.mem_cons.1 ((h x).1 (by simp)) with e | e
   ·
    exact e
   ·
    rcases List.mem_cons.1 ((h y).2 (by simp)) with e' | e'
    ·
     exact e'.symm
    ·
     exact absurd (List.lt_trans (p1.1 y e') (p2.1 x e)) (List.lt_irrefl _)
  subst e
  have : l = l' := by
   refine up_unique p1.2 p2.2 fun z => ⟨fun hz => ?_, fun hz => ?_⟩
   ·
    rcases List.mem_cons.1 ((h z).1 (by simp [hz])) with rfl | h'
    ·
     exact absurd (p1.1 z hz) (List.lt_irrefl _)
    ·
     exact h'
   ·
    rcases List.mem_cons.1 ((h z).2 (by simp [hz])) with rfl | h'
    ·
     exact absurd (p2.1 z hz) (List.lt_irrefl _)
    ·
     exact h'
  rw [this]
abbrev Elem (k : Nat) : Type := ByteArray × {l : List Value // l.length = k ∧ ∀ v ∈ l, v.oneCell' = true}
instance (k : Nat) : Inhabited (Elem k) := ⟨(⟨#[]⟩, ⟨List.replicate k (.bool false), by simp, fun v hv => by rw [(List.mem_replicate.1 hv).2]; rfl⟩)⟩
def cellsE {k : Nat} (x : Elem k) : List Value := .string x.1 :: x.2.1
theorem cellsE_len {k : Nat} (x : Elem k) : (cellsE x).length = k + 1 := by rw [cellsE, List.length_cons, x.2.2.1]
theorem cellsE_one {k : Nat} (x : Elem k) : ∀ v ∈ cellsE x, v.oneCell' = true := fun v hv => by
 rcases List.mem_cons.1 hv with rfl | hv
 ·
  rfl
 ·
  exact x.2.2.2 v hv
def keyE {k : Nat} (x : Elem k) : List UInt8 := x.1.data.toList
def cfE {k : Nat} (x y : Elem k) : Int := Lib.compareBytes (keyE x) (keyE y)
theorem ltE {k : Nat} (x y : Elem k) : Go.Proofs.ltOf cfE x y = decide (keyE x < keyE y) := by
 unfold Go.Proofs.ltOf cfE
 exact decide_eq_decide.2 (kcmp _ _).1
theorem swoE (k : Nat) : Go.Sort.SWO (Go.Proofs.ltOf (cfE (k := k))) where
 irrefl x := by rw [ltE]; simp [List.lt_irrefl]
 trans x y z h1 h2 := by
  rw [ltE, decide_eq_true_eq] at *
  exact List.lt_trans h1 h2
 ntrans x y z h1 h2 := by
  rw [ltE, decide_eq_false_iff_not] at *
  intro h3
  rcases ktri (keyE x) (keyE y) with h | h | h
  ·
   exact h1 h
  ·
   rw [h] at h3; exact h2 h3
  ·
   exact h2 (List.lt_trans h h3)
theorem parts_spec {S : Nat → Prop} {w : World} {k : Nat} : ∀ {rows : List (List V)} {vs : List Value}, (∀ r ∈ rows, r.length = k + 1) → (∀ r ∈ rows, hasKey r = true) → Reps S w vs rows.flatten [] → (∀ v ∈ vs, v.oneCell' = true) →
  ∃ L : List (Elem k × List V), L.map (·.2) = rows ∧ (L.map fun x => cellsE x.1).flatten = vs ∧ ∀ x ∈ L, Reps S w (cellsE x.1) x.2 []
 | [], vs, _, _, h, _ => by
  cases h
  exact ⟨[], rfl, rfl, fun x hx => by cases hx⟩
 | r :: rows, vs, hk, hs, h, h1 => by
  have hr := hk r (by simp)
  have hkey := hs r (by simp)
  have ht : Reps S w (vs.take (k + 1)) r [] := by
   have := h.take0 (n := k + 1)
   rwa [show (r :: rows).flatten.take (k + 1) = r by rw [List.flatten_cons, ← hr, List.take_left]] at this
  have hd : Reps S w (vs.drop (k + 1)) rows.flatten [] := by
   have := h.drop0 (n := k + 1)
   rwa [show (r :: rows).flatten.drop (k + 1) = rows.flatten by rw [List.flatten_cons, ← hr, List.drop_left]] at this
  obtain ⟨L, e1, e2, e3⟩ := parts_spec (fun r hr => hk r (by simp [hr])) (fun r hr => hs r (by simp [hr])) hd fun v hv => h1 v (List.mem_of_mem_drop hv)
  have h1t : ∀ v ∈ vs.take (k + 1), v.oneCell' = true := fun v hv => h1 v (List.mem_of_mem_take hv)
  obtain ⟨s, tl, e4⟩ : ∃ s tl, vs.take (k + 1) = .string s :: tl := by
   generalize vs.take (k + 1) = q at ht
   cases r with
   | nil => cases hkey
   | cons c r =>
    cases c <;> simp only [hasKey, Bool.false_eq_true] at hkey
    generalize hO : ([] : List Nat) = O at ht
    cases ht with
    | cons q1 q2 => cases q1; exact ⟨_, _, rfl⟩
  have hlen : tl.length = k := by
   have := ht.len
   rw [e4, hr] at this
   simpa using this
  refine ⟨((s, ⟨tl, hlen, fun v hv => h1t v (by rw [e4]; simp [hv])⟩), r) :: L, by simp [e1], ?_, fun x hx => ?_⟩
  ·
   rw [List.map_cons, List.flatten_cons, e2]
   show (Value.string s :: tl) ++ vs.drop (k + 1) = vs
   rw [← e4, List.take_append_drop]
  ·
   rcases List.mem_cons.1 hx with rfl | hx
   ·
    simp only [cellsE]; rw [← e4]; exact ht
   ·
    exact e3 x hx
theorem perm_lift {α β : Type} {f : α → β} {l : List α} {m : List β} (h : m.Perm (l.map f)) : ∃ l' : List α, l'.Perm l ∧ l'.map f = m := by
 generalize hq : l.map f = q at h
 induction h generalizing l with
 | nil => exact ⟨[], by rw [List.map_eq_nil_iff.1 hq], rfl⟩
 | @cons x m q h ih =>
  cases l with
  | nil => cases hq
  | cons a l =>
   rw [List.map_cons, List.cons.injEq] at hq
   obtain ⟨l', h1, h2⟩ := ih hq.2
   exact ⟨a :: l', h1.cons a, by rw [List.map_cons, h2, hq.1]⟩
 | swap x y m =>
  match l, hq with
  | a :: b :: l, hq =>
   simp only [List.map_cons, List.cons.injEq] at hq
   exact ⟨b :: a :: l, .swap a b l, by simp [hq.1, hq.2.1, hq.2.2]⟩
 | trans _ _ ih1 ih2 =>
  obtain ⟨l1, h1, h2⟩ := ih2 hq
  obtain ⟨l2, h3, h4⟩ := ih1 h2
  exact ⟨l2, h3.trans h1, h4⟩
theorem key_rep {S : Nat → Prop} {w : World} {k : Nat} {x : Elem k} {r : List V} (h : Reps S w (cellsE x) r []) (hk : hasKey r = true) : keyE x = keyV r := by
 unfold cellsE at h
 cases r with
 | nil => cases hk
 | cons c r =>
  cases c <;> simp only [hasKey, Bool.false_eq_true] at hk
  generalize hO : ([] : List Nat) = O at h
  cases h with
  | cons q1 q2 =>
   cases q1
   rfl
theorem flat_get {k : Nat} : ∀ {d : List (Elem k)} {t : Nat}, t < d.length * (k + 1) → (d.map cellsE).flatten[t]! = (cellsE d[t / (k + 1)]!)[t % (k + 1)]!
 | [], t, h => by simp at h
 | x :: d, t, h => by
  have hx := cellsE_len x
  have hk : 0 < k + 1 := Nat.succ_pos k
  rw [List.map_cons, List.flatten_cons]
  by_cases ht : t < k + 1
  ·
   rw [Nat.div_eq_of_lt ht, Nat.mod_eq_of_lt ht]
   have h3 : t < (cellsE x).length := by omega
   rw [List.getElem!_eq_getElem?_getD, List.getElem!_eq_getElem?_getD, List.getElem?_append_left h3]
   rfl
  ·
   have hr := flat_get (d := d) (t := t - (k + 1)) (by rw [List.length_cons, Nat.add_mul, Nat.one_mul] at h; omega)
   have e1 : t / (k + 1) = (t - (k + 1)) / (k + 1) + 1 := by
    have := Nat.add_div_right (t - (k + 1)) hk
    rw [Nat.sub_add_cancel (by omega)] at this
    omega
   have e2 : t % (k + 1) = (t - (k + 1)) % (k + 1) := by
    have := Nat.add_mod_right (t - (k + 1)) (k + 1)
    rw [Nat.sub_add_cancel (by omega)] at this
    omega
   rw [e1, e2]
   show _ = (cellsE ((x :: d)[(t - (k + 1)) / (k + 1) + 1]!))[(t - (k + 1)) % (k + 1)]!
   rw [show (x :: d)[(t - (k + 1)) / (k + 1) + 1]! = d[(t - (k + 1)) / (k + 1)]! by simp, ← hr]
   rw [List.getElem!_eq_getElem?_getD, List.getElem!_eq_getElem?_getD, List.getElem?_append_right (by omega), hx]
theorem flatK_list {k : Nat} (d : List (Elem k)) : (Go.Sort.flatK cellsE (k + 1) d.toArray).toList = (d.map cellsE).flatten := by
 have hl : (d.map cellsE).flatten.length = d.length * (k + 1) := by
  rw [List.length_flatten, List.map_map]
  have : (List.length ∘ fun x : Elem k => cellsE x) = fun _ => k + 1 := funext fun x => cellsE_len x
  rw [show (List.length ∘ cellsE) = fun _ : Elem k => k + 1 from this, List.map_const', List.sum_replicate_nat]
 apply List.ext_getElem
 ·
  rw [hl]; simp
 ·
  intro t h1 h2
  have ht : t < d.length * (k + 1) := by rw [← hl]; exact h2
  have := Go.Sort.get_flatK (cellsE (k := k)) (k + 1) d.toArray t (by simpa using ht)
  rw [show d.toArray[t / (k + 1)]! = d[t / (k + 1)]! by simp, ← flat_get ht] at this
  rw [getElem!_pos _ t (by simpa using ht), getElem!_pos _ t h2] at this
  simpa using this
section
variable {P : Program} {G : Nat → Option (List V)} {S : Nat → Prop} {w w' : World}
theorem heap_put {b o n : Nat} {d : Array Value} {os : Array Obj} {b' : Nat} (hb : b' < w.heap.size) (hne : b' ≠ b) : (Go.Sort.grow (Go.Sort.putRow id (Go.Sort.ahead w n) b o d) os).heap[b']? = w.heap[b']? := by
 unfold Go.Sort.grow Go.Sort.putRow Go.Sort.mapBlock Go.Sort.ahead
 simp only
 rw [Array.getElem?_append_left (by simpa using hb), Array.getElem?_modify, if_neg (fun e => hne e.symm)]
theorem open_put {k b o n N : Nat} {d : Array Value} {os : Array Obj} (h : OpenRow k w b N) : OpenRow k (Go.Sort.grow (Go.Sort.putRow id (Go.Sort.ahead w n) b o d) os) b N := by
 obtain ⟨cs, e, lo, hi, h1, h2, h3⟩ := h
 have hb := lt_of_some h1
 refine ⟨Go.Sort.putCells id o d cs, e, lo, hi, ?_, by simpa [Go.Sort.putCells] using h2, by simpa [Go.Sort.putCells] using h3⟩
 unfold Go.Sort.grow Go.Sort.putRow Go.Sort.mapBlock Go.Sort.ahead
 simp only
 rw [Array.getElem?_append_left (by simpa using hb), Array.getElem?_modify, if_pos rfl, h1]
 rfl
set_option maxHeartbeats 2000000 in
theorem sort_ok {f g k : Nat} {args outs : List V} {res : V} (hk1 : k ≠ 0) (he : ∀ (vs : Array Value) (w : World), (callFunc f vs).run P w = .ok (.enter f vs) w)
  (hsort : ∀ (b o c : Nat) (d : Array (Elem k)) (w : World), Go.Sort.HoldsK (cellsE (k := k)) (k + 1) w b o d → b < w.heap.size → d.size < 4611686018427387904 →
   Calls P f #[.slice (some ⟨b, o, none⟩) d.size c, .func (.func g) #[] #[]] w fun e w' => e = .returned (.tuple #[]) ∧ ∃ d' n os, Go.Sort.PermIn 0 d.size d d' ∧ Go.Sort.SortedIn (ltOf cfE) 0 d.size d' ∧ w' = Go.Proofs.sortWorldK (cellsE (k := k)) (k + 1) w b o n d' os)
  (hnone : ∀ (a : Option Addr) (w : World), Calls P f #[.slice a 0 0, .func (.func g) #[] #[]] w fun e w' => e = .returned (.tuple #[]) ∧ w' = w)
  (h : primSort g (k + 1) args = some (res, outs)) : Does P G f args res outs := by
 unfold primSort at h
 split at h
 ·
  rename_i kq rows g'
  split at h
  ·
   rename_i hc
   obtain ⟨hkk, rfl, hlim, hkey, hnd⟩ := hc
   subst hkk
   simp only [Option.some.injEq, Prod.mk.injEq] at h
   obtain ⟨rfl, rfl⟩ := h
   intro S w vs O hG
   obtain ⟨u1, v1, O1, O2, rfl, rfl, r1, r2⟩ : ∃ u v O1 O2, vs = [u, v] ∧ O = O1 ++ O2 ∧ Rep S w u (.own false (k + 1) rows) O1 ∧ Rep S w v (.fn g' []) O2 := by
    have := hG.rep
    cases this with
    | cons q1 q2 => cases q2 with
     | cons q3 q4 => cases q4; exact ⟨_, _, _, _, rfl, by simp, q1, q3⟩
   cases r2 with
   | @fn _ caps _ q =>
   have hcaps : caps = #[] := by
    cases hcl : caps.toList with
    | nil => exact Array.toList_eq_nil_iff.1 hcl
    | cons x xs => rw [hcl] at q; cases q
   subst hcaps
   cases r1 with
   | own0 a _ _ =>
    refine .inl ⟨he _ _, (hnone a w).mono fun e w' ⟨s1, s2⟩ => ⟨_, s1, ?_⟩⟩
    subst s2
    exact ⟨S, [], [], .tup .nil, .cons (O1 := []) (O2 := []) (.own0 _ _ _) (.cons (O1 := []) (O2 := []) (.ud _) .nil), by simp, by simp, Nat.le_refl _, fun _ h => h, fun _ h => .inl h, hG.low, fun _ _ _ => rfl, Same.refl _⟩
   | @own b o c _ _ _ O h1 h2 h3 h4 h5 h6 =>
   have := h5 rfl
   subst this
   obtain ⟨vs, g1, g2, g3⟩ := h6.vals
   obtain ⟨L, l1, l2, l3⟩ := parts_spec h2 (List.all_eq_true.1 hkey) g1 g2
   have hLlen : (L.map (·.1)).length = rows.length := by rw [← l1]; simp
   have hat : At w b o vs := fun x hx => by rw [g3 x vs[x] (by simp [hx])]; simp [List.getD_eq_getElem?_getD, hx]
   have hblt : b < w.heap.size := by obtain ⟨cs, e, lo, hi, q1, _⟩ := h3; exact lt_of_some q1
   obtain ⟨e, m, s1, s2, s3⟩ := not_frozen h3 (by omega)
   have hflat : (Go.Sort.flatK (cellsE (k := k)) (k + 1) (L.map (·.1)).toArray).toList = vs := by
    rw [flatK_list, List.map_map]
    exact l2
   have hvl : vs.length = rows.length * (k + 1) := by rw [g1.len, flatten_length h2]
   have hH : Go.Sort.HoldsK (cellsE (k := k)) (k + 1) w b o (L.map (·.1)).toArray := by
    intro j hj
    have hj' : j < vs.length := by rw [← hflat]; simpa using hj
    refine ⟨?_, s3 _⟩
    rw [hat j hj']
    have : (Go.Sort.flatK (cellsE (k := k)) (k + 1) (L.map (·.1)).toArray)[j]! = vs.getD j undef := by
     rw [getElem!_pos _ j hj, List.getD_eq_getElem?_getD, List.getElem?_eq_getElem hj']
     have := Array.getElem_toList (xs := Go.Sort.flatK (cellsE (k := k)) (k + 1) (L.map (·.1)).toArray) (i := j) hj
     rw [← this]
     simp only [hflat]
     rfl
    rw [this]; rfl
   have hsz : (L.map (·.1)).toArray.size = rows.length := by simpa using hLlen
   refine .inl ⟨he _ _, ?_⟩
   have hcall := hsort b o c (L.map (·.1)).toArray w hH hblt (by rw [hsz]; unfold lim at hlim; omega)
   rw [hsz] at hcall
   refine hcall.mono fun e w' ⟨t1, d', n, os, t2, t3, t4⟩ => ⟨_, t1, ?_⟩
   obtain ⟨p1, _, p3⟩ := t2
   rw [hsz] at p1
   have hperm : d'.toList.Perm (L.map (·.1)) := by
    have e1 : d'.extract 0 rows.length = d' := Array.ext (by simp; omega) (by intro i _ _; simp)
    have e2 : (L.map (·.1)).toArray.extract 0 rows.length = (L.map (·.1)).toArray := Array.ext (by simp; simp at hsz; omega) (by intro i _ _; simp)
    rw [e1, e2] at p3
    simpa using p3
   obtain ⟨L', q1, q2⟩ := perm_lift hperm
   have hL' : ∀ x ∈ L', x ∈ L := fun x hx => q1.mem_iff.1 hx
   have hkeys : ∀ x ∈ L', keyE x.1 = keyV x.2 := fun x hx => by
    have hx := hL' x hx
    refine key_rep (l3 x hx) ?_
    rw [List.all_eq_true] at hkey
    exact hkey _ (l1 ▸ List.mem_map_of_mem hx)
   have hrows' : (L'.map (·.2)).Perm rows := by rw [← l1]; exact q1.map _
   have hnd' : ((L'.map (·.2)).map keyV).Nodup := (hrows'.map keyV).nodup_iff.2 ((nodupB_iff _).1 hnd)
   have hup : Up (L'.map (·.2)) := by
    rw [Up, List.pairwise_iff_getElem]
    intro i j hi hj hij
    have hi' : i < L'.length := by simpa using hi
    have hj' : j < L'.length := by simpa using hj
    have hdl : d'.size = L'.length := by rw [← Array.length_toList, ← q2]; simp
    have hs := t3 i j (Nat.zero_le _) hij (by omega)
    have di : d'[i]! = L'[i].1 := by
     rw [getElem!_pos _ i (by omega), ← Array.getElem_toList]
     simp only [← q2, List.getElem_map]
    have dj : d'[j]! = L'[j].1 := by
     rw [getElem!_pos _ j (by omega), ← Array.getElem_toList]
     simp only [← q2, List.getElem_map]
    rw [di, dj, ltE, decide_eq_false_iff_not, hkeys _ (List.getElem_mem hi'), hkeys _ (List.getElem_mem hj')] at hs
    simp only [List.getElem_map]
    have hne : keyV L'[i].2 ≠ keyV L'[j].2 := by
     rw [List.nodup_iff_pairwise_ne, List.pairwise_iff_getElem] at hnd'
     simpa using hnd' i j (by simpa using hi') (by simpa using hj') hij
    exact (ktri _ _).resolve_right fun h => h.elim hne hs
   have hsortR : L'.map (·.2) = sortR rows := up_unique hup (sortR_up ((nodupB_iff _).1 hnd)) fun x => by rw [hrows'.mem_iff, sortR_mem]
   have hd'k : (Go.Sort.flatK (cellsE (k := k)) (k + 1) d').toList = (L'.map fun x => cellsE x.1).flatten := by
    have : d' = (L'.map (·.1)).toArray := by rw [q2]
    rw [this, flatK_list, List.map_map]
    rfl
   have hH' := Go.Proofs.holdsK_sortWorldK_c (cellsE (k := k)) (k + 1) w b o _ d' n os hH hblt (by rw [p1, hsz])
   rw [← t4] at hH'
   have hreps : Reps S w (L'.map fun x => cellsE x.1).flatten (sortR rows).flatten [] := by
    rw [← hsortR]
    have : ∀ M : List (Elem k × List V), (∀ x ∈ M, Reps S w (cellsE x.1) x.2 []) → Reps S w (M.map fun x => cellsE x.1).flatten (M.map (·.2)).flatten [] := by
     intro M
     induction M with
     | nil => intro _; exact .nil
     | cons y M ih =>
      intro hM
      simp only [List.map_cons, List.flatten_cons]
      exact (hM y (by simp)).append0 (ih fun x hx => hM x (by simp [hx]))
    exact this L' fun x hx => l3 x (hL' x hx)
   have hone : ∀ v ∈ (L'.map fun x => cellsE x.1).flatten, v.oneCell' = true := by
    intro v hv
    rw [List.mem_flatten] at hv
    obtain ⟨l, hl, hv⟩ := hv
    obtain ⟨x, hx, rfl⟩ := List.mem_map.1 hl
    exact cellsE_one x.1 v hv
   have hsw : w' = Go.Sort.grow (Go.Sort.putRow id (Go.Sort.ahead w n) b o (Go.Sort.flatK (cellsE (k := k)) (k + 1) d')) os := t4
   have hat' : At w' b o (L'.map fun x => cellsE x.1).flatten := by
    intro j hj
    rw [← hd'k] at hj
    have hj2 : j < (Go.Sort.flatK (cellsE (k := k)) (k + 1) d').size := by simpa using hj
    rw [(hH' j hj2).1, getElem!_pos _ j hj2, List.getD_eq_getElem?_getD, ← hd'k, List.getElem?_eq_getElem hj, Array.getElem_toList]
    rfl
   have hlen' : (sortR rows).length = rows.length := by rw [← hsortR]; exact hrows'.length_eq
   have hsize : w.heap.size ≤ w'.heap.size := by rw [hsw]; simp
   have hkeep : ∀ b', b' < w.heap.size → b' ∉ [b] ++ [] → w'.heap[b']? = w.heap[b']? := fun b' hb' hn => by
    rw [hsw]; exact heap_put hb' fun e => hn (by simp [e])
   have hSw : ∀ b', S b' → w'.heap[b']? = w.heap[b']? := fun b' hb' => hkeep b' (hG.low b' hb') fun h => hG.apart b' h hb'
   have hmem : Mem S w' b o (sortR rows).flatten [] := Mem.fresh (hreps.mono (fun _ h => h) hSw (by simp)) hone hat'
   have hown : Rep S w' (.slice (some ⟨b, o, none⟩) rows.length c) (.own false (k + 1) (sortR rows)) [b] := by
    have := Rep.own (S := S) (w := w') (b := b) (o := o) (c := c) (k := k + 1) (n := false) (rows := sortR rows) (O := []) h1 (fun r hr => h2 r (sortR_mem.1 hr)) (by rw [hsw]; exact open_put h3) (by rw [hlen']; exact h4) (fun _ => rfl) hmem
    rwa [hlen'] at this
   refine ⟨S, [], [b], .tup .nil, .cons (O1 := [b]) (O2 := []) hown (.cons (O1 := []) (O2 := []) (.ud _) .nil), by simp, fun b' hb' => ?_, hsize, fun _ h => h, fun _ h => .inl h, fun b' hb' => Nat.lt_of_lt_of_le (hG.low b' hb') hsize, hkeep, ?_⟩
   ·
    simp only [List.nil_append, List.mem_singleton] at hb'
    subst hb'
    exact ⟨fun h => hG.apart b' (by simp) h, .inl (by simp)⟩
   ·
    rw [hsw]; exact ⟨rfl, rfl, rfl⟩
  ·
   cases h
 ·
  cases h
end
end Go.Zv
