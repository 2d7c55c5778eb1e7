/- Plain laws about plain functions: paths, parts, texts. No condition. -/
import Derived.Test.YtdddbifjkkhpbaaGreatDoorPlainP
import Derived.Sort.Walk0
namespace Go.Proofs.YtdddbifjkkhpbaaGreatDoor.G
open Go Go.Zv Go.Proofs Go.Proofs.YtdddbifjkkhpbaaGreatDoor
set_option maxRecDepth 100000
abbrev S := List UInt8
theorem bsome {α β : Type} (x : α) (f : α → Option β) : (some x).bind f = f x := Eq.trans (Option.bind_some x f) (Eq.refl _)
attribute [local simp high] bsome
theorem ix_nat {α : Type} {l : List α} {i : Nat} (h : i < l.length) : ix l (i : Int) = some l[i] := by
  unfold ix
  rw [if_pos (by omega)]
  simp [h]
theorem ix_zero {α : Type} {l : List α} (h : 0 < l.length) : ix l 0 = some l[0] := ix_nat (i := 0) h
theorem rng_ok {x : Int} (h1 : -9223372036854775808 ≤ x) (h2 : x < 9223372036854775808) : rng x = some x := by
  unfold rng; rw [if_pos ⟨h1, h2⟩]
theorem rng_nat {x : Nat} (h2 : x < 4611686018427387904) : rng (x : Int) = some (x : Int) := rng_ok (by omega) (by omega)
theorem rng_succ {x : Nat} (h2 : x < 4611686018427387904) : rng ((x : Int) + 1) = some ((x + 1 : Nat) : Int) := rng_ok (by omega) (by omega)
theorem need_ok {p : Prop} [Decidable p] (h : p) : need p = some () := by unfold need; rw [if_pos h]
theorem cutI_nat {α : Type} {l : List α} {a b : Nat} (h1 : a ≤ b) (h2 : b ≤ l.length) : cutI l (a : Int) (b : Int) = some ((l.take b).drop a) := by
  unfold cutI
  rw [if_pos (by omega)]
  simp
theorem cutI_end {α : Type} {l : List α} {a : Nat} (h1 : a ≤ l.length) : cutI l (a : Int) (l.length : Int) = some (l.drop a) := by
  rw [cutI_nat h1 (Nat.le_refl _), List.take_length]
theorem cutI_front {α : Type} {l : List α} {b : Nat} (h2 : b ≤ l.length) : cutI l 0 (b : Int) = some (l.take b) := cutI_nat (a := 0) (by omega) h2

/-- The parts between bytes of a kind. -/
def splitC (c : UInt8) : S → List S
  | [] => [[]]
  | x :: xs => if x = c then [] :: splitC c xs else match splitC c xs with
    | [] => [[x]]
    | p :: ps => (x :: p) :: ps
theorem splitC_ne (c : UInt8) : ∀ s : S, splitC c s ≠ []
  | [] => by simp [splitC]
  | x :: xs => by
    unfold splitC
    split
    · simp
    · split <;> simp
theorem splitC_length (c : UInt8) : ∀ s : S, (splitC c s).length = cnt8 c s + 1
  | [] => rfl
  | x :: xs => by
    unfold splitC cnt8
    by_cases h : x = c
    · simp [h, splitC_length c xs]
    · have := splitC_length c xs
      split
      · rename_i e; exact absurd e h
      · split
        · rename_i e; exact absurd e (splitC_ne c xs)
        · rename_i p ps e
          rw [e] at this
          have hb : (x == c) = false := by simpa using h
          simp only [hb, cond_false, List.length_cons]
          simpa using this
/-- Without the byte there is one part. -/
theorem splitC_none (c : UInt8) : ∀ s : S, c ∉ s → splitC c s = [s]
  | [], _ => rfl
  | x :: xs, h => by
    have h1 : x ≠ c := fun e => h (by simp [e])
    have h2 : c ∉ xs := fun e => h (by simp [e])
    unfold splitC
    rw [if_neg h1, splitC_none c xs h2]
theorem splitC_mid (c : UInt8) : ∀ (a b : S), c ∉ a → splitC c (a ++ c :: b) = a :: splitC c b
  | [], b, _ => by simp [splitC]
  | x :: xs, b, h => by
    have h1 : x ≠ c := fun e => h (by simp [e])
    have h2 : c ∉ xs := fun e => h (by simp [e])
    rw [List.cons_append, splitC, if_neg h1, splitC_mid c xs b h2]
theorem cnt8_pos {c : UInt8} : ∀ {s : S}, 0 < cnt8 c s ↔ c ∈ s
  | [] => by simp [cnt8]
  | x :: xs => by
    unfold cnt8
    by_cases h : x = c
    · simp [h]
    · have hb : (x == c) = false := by simpa using h
      simp only [hb, cond_false, cnt8_pos (s := xs), List.mem_cons]
      exact ⟨.inr, fun e => e.resolve_left fun e => h e.symm⟩
theorem cnt8_le {c : UInt8} : ∀ {s : S}, cnt8 c s ≤ s.length
  | [] => by simp [cnt8]
  | x :: xs => by
    unfold cnt8
    have := cnt8_le (c := c) (s := xs)
    cases x == c <;> simp <;> omega
theorem cnt8_append (c : UInt8) : ∀ (a b : S), cnt8 c (a ++ b) = cnt8 c a + cnt8 c b
  | [], b => by simp [cnt8]
  | x :: xs, b => by
    rw [List.cons_append, cnt8, cnt8, cnt8_append c xs b]
    cases x == c <;> simp <;> omega
/-- The first place of a byte. -/
theorem idx8_spec (c : UInt8) : ∀ (s : S) (k : Nat), (c ∉ s ∧ idx8 c s k = -1) ∨ ∃ a b, s = a ++ c :: b ∧ c ∉ a ∧ idx8 c s k = ((k + a.length : Nat) : Int)
  | [], k => .inl ⟨by simp, rfl⟩
  | x :: xs, k => by
    by_cases h : x = c
    · subst h
      exact .inr ⟨[], xs, by simp, by simp, by simp [idx8]⟩
    · have hb : (x == c) = false := by simpa using h
      rcases idx8_spec c xs (k + 1) with ⟨h1, h2⟩ | ⟨a, b, h1, h2, h3⟩
      · refine .inl ⟨by simp [h1]; exact fun e => h e.symm, ?_⟩
        simp only [idx8, hb, cond_false, h2]
      · refine .inr ⟨x :: a, b, by simp [h1], by simp [h2]; exact fun e => h e.symm, ?_⟩
        simp only [idx8, hb, cond_false, h3, List.length_cons]
        omega

/-! The program's paths. -/
def okB (c : UInt8) : Bool := !letN c.toNat
def okPart (s : S) : Bool := !((s == []) || (s == [46]) || (s == [46, 46])) && s.all okB
def okPath (s : S) : Bool := decide (s.length ≤ 60) && (splitC 47 s).all okPart
theorem F129_eq (n : Nat) (s : S) : F129 n s = some (!okPart s) := by
  unfold F129 okPart
  cases e : (((s == ([] : List UInt8)) || (s == ([46] : List UInt8))) || (s == ([46, 46] : List UInt8))) with
  | true => simp
  | false =>
    simp only [Bool.false_eq_true, if_false, Bool.not_false, Bool.true_and]
    congr 1
    unfold okB
    rw [List.all_eq_not_any_not]
    simp
theorem F162_L5_eq (n : Nat) (l : List S) (hl : l.length < 1000000) : ∀ (m i : Nat), l.length < m + i → i ≤ l.length → ∃ r, F162_L5 n l m (i : Int) = some r ∧ decide (r ≥ 0) = (l.drop i).any fun s => !okPart s
  | 0, i, h1, h2 => by omega
  | m + 1, i, h1, h2 => by
    rw [F162_L5]
    by_cases hi : i < l.length
    · rw [if_pos (by simpa using hi), ix_nat hi]
      simp only [bsome, F129_eq, rng_succ (show i < 4611686018427387904 by omega)]
      rw [List.drop_eq_getElem_cons hi, List.any_cons]
      cases e : (!okPart l[i]) with
      | true => exact ⟨i, by simp, by simp⟩
      | false =>
        obtain ⟨r, h3, h4⟩ := F162_L5_eq n l hl m (i + 1) (by omega) (by omega)
        exact ⟨r, by simpa using h3, by simpa using h4⟩
    · rw [if_neg (by simpa using hi)]
      have : i = l.length := by omega
      subst this
      exact ⟨-1, rfl, by simp⟩
theorem F128_eq {n : Nat} {l : List S} (hl : l.length < 1000000) (hn : l.length < n) : F128 n l = some (!(l.all okPart)) := by
  unfold F128 F162
  obtain ⟨r, h3, h4⟩ := F162_L5_eq n l hl n 0 (by omega) (by omega)
  rw [show ((0 : Nat) : Int) = 0 from rfl] at h3
  rw [h3]
  simp only [bsome, h4, List.drop_zero]
  congr 1
  rw [List.all_eq_not_any_not]
  simp
theorem F221_one (n : Nat) (s : S) (c : UInt8) : F221 n s [c] = some (idx8 c s 0) := by
  simp [F221, F222, ix]
  rintro rfl
  simp [idx8]
theorem F198_one (n : Nat) (s : S) (c : UInt8) : F198 n s [c] = some (idx8 c s 0) := by
  simp [F198, F221_one]
theorem F197_one (n : Nat) (s : S) (c : UInt8) : F197 n s [c] = some ((cnt8 c s : Nat) : Int) := by
  simp [F197, ix]
/-- Taking apart, from what is still to be taken apart. -/
theorem F155_L32_eq (n : Nat) (c : UInt8) : ∀ (m : Nat) (s : S) (done : List S) (k : Nat), cnt8 c s = k → k < m → done.length + k < 1000000 → s.length < 1000000 →
    F155_L32 n [c] 0 ((done.length + k : Nat) : Int) m s (done ++ List.replicate (k + 1) []) (done.length : Int) = some (done ++ splitC c s)
  | 0, s, done, k, hk, hm, hd, hs => by omega
  | m + 1, s, done, k, hk, hm, hd, hs => by
    rw [F155_L32]
    have fin : ∀ k', k' = k → c ∉ s → F155_J19 s (done ++ List.replicate (k' + 1) []) (done.length : Int) = some (done ++ [s]) := by
      intro k' hk' hc
      have h0 : k' = 0 := by
        subst hk'; subst hk
        have := mt cnt8_pos.1 hc
        omega
      subst h0
      unfold F155_J19
      rw [ix_nat (by simp)]
      simp only [bsome, rng_succ (show done.length < 4611686018427387904 by omega)]
      rw [cutI_front (by simp)]
      simp [List.take_of_length_le]
    by_cases h0 : 0 < k
    · rw [if_pos (by simp; omega), F198_one]
      simp only [bsome]
      rcases idx8_spec c s 0 with ⟨h1, h2⟩ | ⟨a, b, h1, h2, h3⟩
      · exact absurd (cnt8_pos.1 (hk ▸ h0)) h1
      · rw [h3]
        have hcb : cnt8 c s = cnt8 c b + 1 := by
          rw [h1, cnt8_append]
          have : cnt8 c a = 0 := by
            have := mt cnt8_pos.1 h2; omega
          simp [cnt8, this]
        have hla : a.length ≤ s.length := by rw [h1]; simp
        rw [if_neg (by simp), Int.add_zero, Nat.zero_add, rng_nat (by omega)]
        simp only [bsome]
        rw [cutI_front hla]
        simp only [bsome]
        rw [ix_nat (by simp)]
        simp only [bsome, List.length_singleton]
        rw [show ((a.length : Int) + ((1 : Nat) : Int)) = ((a.length + 1 : Nat) : Int) by omega, rng_nat (by omega)]
        simp only [bsome]
        rw [cutI_end (by rw [h1]; simp)]
        simp only [bsome, rng_succ (show done.length < 4611686018427387904 by omega)]
        obtain ⟨k', rfl⟩ : ∃ k', k = k' + 1 := ⟨k - 1, by omega⟩
        have hta : s.take a.length = a := by rw [h1]; simp
        have hdb : s.drop (a.length + 1) = b := by rw [h1]; simp
        rw [hta, hdb]
        have hset : (done ++ List.replicate (k' + 1 + 1) ([] : S)).set (Int.toNat (done.length : Int)) a = (done ++ [a]) ++ List.replicate (k' + 1) [] := by
          rw [Int.toNat_natCast, List.set_append_right _ _ (Nat.le_refl _), Nat.sub_self, List.replicate_succ, List.set_cons_zero, List.append_assoc, List.singleton_append]
        rw [hset]
        have ih := F155_L32_eq n c m b (done ++ [a]) k' (by omega) (by omega) (by simp; omega) (by rw [h1] at hs; simp at hs; omega)
        rw [List.length_append, List.length_singleton] at ih
        rw [show ((done.length + (k' + 1) : Nat) : Int) = ((done.length + 1 + k' : Nat) : Int) by omega]
        rw [ih, h1, splitC_mid c a b h2]
        simp
    · have hk0 : k = 0 := by omega
      subst hk0
      have hc : c ∉ s := fun e => by have := cnt8_pos.2 e; omega
      rw [if_neg (by simp), fin 0 rfl hc, splitC_none c s hc]
theorem F120_eq {n : Nat} {s : S} {c : UInt8} (hs : s.length < 1000000) (hn : s.length < n) : F120 n s [c] = some (splitC c s) := by
  unfold F120 F155
  have hle := cnt8_le (c := c) (s := s)
  simp only [F197_one, bsome]
  rw [if_neg (by decide), if_neg (by simp), if_pos (by decide), rng_succ (by omega)]
  simp only [bsome]
  unfold F155_J8
  rw [rng_succ (by omega)]
  simp only [bsome]
  have hmin : (if ((s.length + 1 : Nat) : Int) < ((cnt8 c s + 1 : Nat) : Int) then ((s.length + 1 : Nat) : Int) else ((cnt8 c s + 1 : Nat) : Int)) = ((cnt8 c s + 1 : Nat) : Int) := if_neg (by omega)
  rw [hmin, need_ok ⟨by omega, by omega, by unfold lim; omega⟩]
  simp only [bsome]
  rw [show (((cnt8 c s + 1 : Nat) : Int) - 1) = ((cnt8 c s : Nat) : Int) by omega, rng_nat (by omega)]
  simp only [bsome, Int.toNat_natCast]
  have := F155_L32_eq n c n s [] (cnt8 c s) rfl (by omega) (by simp; omega) hs
  simp only [List.length_nil, Nat.zero_add, List.nil_append] at this
  rw [show ((0 : Nat) : Int) = 0 from rfl] at this
  rw [this]
  rfl
theorem F88_eq {n : Nat} (s : S) (hn : 100 < n) : F88 n s = some (okPath s) := by
  unfold F88 okPath
  by_cases h0 : s.length = 0
  · have : s = [] := List.length_eq_zero_iff.1 h0
    subst this
    rfl
  by_cases h1 : 60 < s.length
  · rw [if_pos (by simp; omega)]
    have : decide (s.length ≤ 60) = false := by simpa using h1
    rw [this, Bool.false_and]
  · rw [if_neg (by simp; exact ⟨fun e => h0 (by simp [e]), by omega⟩), F120_eq (by omega) (by omega)]
    simp only [bsome]
    have hl := splitC_length 47 s
    have hc := cnt8_le (c := 47) (s := s)
    rw [F128_eq (by omega) (by omega)]
    have : decide (s.length ≤ 60) = true := by simpa using h1
    simp [this]
theorem F54_new {n : Nat} (s : S) (hn : 100 < n) : F54 n s true true [] = some (okPath s) := by
  unfold F54
  rw [F88_eq s hn]
  simp only [bsome]
  have h85 : F85 n [] = some 0 := by
    obtain ⟨m, rfl⟩ : ∃ m, n = m + 1 := ⟨n - 1, by omega⟩
    simp [F85, F85_L9]
  rw [h85]
  cases okPath s <;> simp [F54_J2]
/-- The path of a file, by a list with one patch. -/
theorem F38_eq {n : Nat} (s : S) (hn : 100 < n) : F38 n s = some (okPath s) := by
  unfold F38 F23
  obtain ⟨m, rfl⟩ : ∃ m, n = m + 1 + 1 := ⟨n - 2, by omega⟩
  have h53 : F53 (m + 1 + 1) s true true [] = some (!okPath s) := by simp [F53, F54_new s hn]
  have h51b : F51b (m + 1 + 1) [⟨s, true, true, []⟩] = some (!okPath s) := by
    simp only [F51b, F87b, F87b_L5]
    rw [if_pos (by simp), ix_zero (by simp)]
    simp only [bsome, List.getElem_cons_zero, h53]
    cases okPath s <;> simp [rng, F87b_L5]
  have h51 : F51 (m + 1 + 1) [] s true true [] = some false := by simp [F51, F87, F87_L5]
  rw [if_neg (by simp), F23_L8]
  rw [if_pos (by simp), ix_zero (by simp)]
  simp only [bsome, List.getElem_cons_zero]
  rw [show cutI [(⟨s, true, true, []⟩ : GPatch)] 0 0 = some [] from rfl]
  simp only [bsome, h51, Bool.false_eq_true, if_false]
  rw [show rng (0 + 1) = some 1 from rfl]
  simp only [bsome, F23_L8]
  rw [if_neg (by simp), h51b]
  cases okPath s <;> simp
/-! The reference's paths. -/
theorem letN_iff (c : UInt8) : okB c = !((((((!((decide ((c.toNat : Int) ≥ 97)) && (decide ((c.toNat : Int) ≤ 122)))) && (!((decide ((c.toNat : Int) ≥ 65)) && (decide ((c.toNat : Int) ≤ 90))))) && (!((decide ((c.toNat : Int) ≥ 48)) && (decide ((c.toNat : Int) ≤ 57))))) && ((c.toNat : Int) != 45)) && ((c.toNat : Int) != 95)) && ((c.toNat : Int) != 46)) := by
  unfold okB letN
  have e1 : ∀ a b : Nat, Nat.ble a b = decide ((a : Int) ≤ (b : Int)) := fun a b => by
    rw [Bool.eq_iff_iff, Nat.ble_eq, decide_eq_true_eq]; omega
  have e2 : ∀ a b : Nat, Nat.beq a b = decide ((a : Int) = (b : Int)) := fun a b => by
    rw [Bool.eq_iff_iff, Nat.beq_eq, decide_eq_true_eq]; omega
  rw [Bool.eq_iff_iff]
  simp only [e1, e2]
  simp
theorem F78_L8_eq (s : S) (hs : s.length < 1000000) : ∀ (m i : Nat), s.length < m + i → i ≤ s.length → F78_L8 s m (i : Int) = some ((s.drop i).all okB)
  | 0, i, h1, h2 => by omega
  | m + 1, i, h1, h2 => by
    rw [F78_L8]
    by_cases hi : i < s.length
    · rw [if_pos (by simpa using hi), ix_nat hi]
      simp only [bsome, rng_succ (show i < 4611686018427387904 by omega)]
      rw [List.drop_eq_getElem_cons hi, List.all_cons, letN_iff s[i]]
      generalize ((((((!((decide ((s[i].toNat : Int) ≥ 97)) && (decide ((s[i].toNat : Int) ≤ 122)))) && (!((decide ((s[i].toNat : Int) ≥ 65)) && (decide ((s[i].toNat : Int) ≤ 90))))) && (!((decide ((s[i].toNat : Int) ≥ 48)) && (decide ((s[i].toNat : Int) ≤ 57))))) && ((s[i].toNat : Int) != 45)) && ((s[i].toNat : Int) != 95)) && ((s[i].toNat : Int) != 46)) = q
      cases q with
      | true => simp
      | false => simpa using F78_L8_eq s hs m (i + 1) (by omega) (by omega)
    · rw [if_neg (by simpa using hi)]
      have : i = s.length := by omega
      subst this
      simp
theorem F78_eq {n : Nat} (s : S) (hs : s.length < 1000000) (hn : s.length < n) : F78 n s = some (okPart s) := by
  unfold F78 okPart
  have h := F78_L8_eq s hs n 0 (by omega) (by omega)
  rw [show ((0 : Nat) : Int) = 0 from rfl, List.drop_zero] at h
  rw [h]
  have e : ((s.length : Int) == 0) = (s == []) := by
    rw [Bool.eq_iff_iff]; cases s <;> simp; omega
  rw [e]
  cases (((s == ([] : List UInt8)) || (s == ([46] : List UInt8))) || (s == ([46, 46] : List UInt8))) <;> simp
theorem F44_L9_eq (n : Nat) (s : S) (hs : s.length < 1000000) (hn : s.length < n) : ∀ (m a i : Nat), s.length < m + i → a ≤ i → i ≤ s.length → 47 ∉ (s.take i).drop a → F44_L9 n s m (a : Int) (i : Int) = some ((splitC 47 (s.drop a)).all okPart)
  | 0, a, i, h1, h2, h3, h4 => by omega
  | m + 1, a, i, h1, h2, h3, h4 => by
    rw [F44_L9]
    by_cases hi : i < s.length
    · rw [if_pos (by simpa using hi), ix_nat hi]
      simp only [bsome, rng_succ (show i < 4611686018427387904 by omega)]
      by_cases hc : s[i] = 47
      · rw [if_pos (by rw [hc]; rfl), cutI_nat h2 (by omega)]
        simp only [bsome]
        rw [F78_eq _ (by simp; omega) (by simp; omega)]
        have hsp : s.drop a = (s.take i).drop a ++ 47 :: s.drop (i + 1) := by
          have e1 : s = s.take i ++ s[i] :: s.drop (i + 1) := by simp
          have e2 : s.drop a = (s.take i ++ s[i] :: s.drop (i + 1)).drop a := by rw [← e1]
          rw [e2, List.drop_append_of_le_length (by simp; omega), hc]
        rw [hsp, splitC_mid 47 _ _ h4, List.all_cons]
        cases e : okPart ((s.take i).drop a) with
        | false => simp
        | true =>
          simp only [bsome, Bool.not_true, Bool.false_eq_true, if_false, Bool.true_and]
          exact F44_L9_eq n s hs hn m (i + 1) (i + 1) (by omega) (Nat.le_refl _) (by omega) (by simp)
      · rw [if_neg (by simp; exact fun e => hc (by rw [← UInt8.toNat_inj]; exact Int.ofNat.inj e))]
        refine F44_L9_eq n s hs hn m a (i + 1) (by omega) (by omega) (by omega) ?_
        rw [List.take_succ_eq_append_getElem hi, List.drop_append_of_le_length (by simp; omega)]
        simp [h4]
        exact fun e => hc e.symm
    · rw [if_neg (by simpa using hi), cutI_end (by omega)]
      have : i = s.length := by omega
      subst this
      simp only [bsome]
      rw [F78_eq _ (by simp; omega) (by simp; omega)]
      rw [List.take_length] at h4
      rw [splitC_none 47 _ h4]
      simp
theorem F44_eq {n : Nat} (s : S) (hn : 100 < n) : F44 n s = some (okPath s) := by
  unfold F44 okPath
  by_cases h1 : 60 < s.length
  · rw [if_pos (by simp; omega)]
    have : decide (s.length ≤ 60) = false := by simpa using h1
    rw [this, Bool.false_and]
  · rw [if_neg (by simp; omega)]
    have := F44_L9_eq n s (by omega) (by omega) n 0 0 (by omega) (Nat.le_refl _) (by omega) (by simp)
    rw [show ((0 : Nat) : Int) = 0 from rfl] at this
    rw [this]
    have : decide (s.length ≤ 60) = true := by simpa using h1
    simp [this]
end Go.Proofs.YtdddbifjkkhpbaaGreatDoor.G
namespace Go.Proofs.YtdddbifjkkhpbaaGreatDoor.G
open Go Go.Zv Go.Proofs Go.Proofs.YtdddbifjkkhpbaaGreatDoor
set_option maxRecDepth 100000
attribute [local simp high] bsome
/-- What is wrong with a text. -/
def txtE (s : S) : Int := if s.length ≤ 2000 ∧ cnt8 10 s < 60 then 0 else 4
theorem F39_eq {n : Nat} (s : S) : F39 n s = some (txtE s) := by
  unfold F39 txtE
  by_cases h : 2000 < s.length
  · rw [if_pos (by simp; omega), if_neg (by omega)]
  · rw [if_neg (by simp; omega)]
    have : F73 n s [(10 : UInt8)] = some ((cnt8 10 s : Nat) : Int) := by simp [F73, ix]
    rw [this]
    simp only [bsome]
    by_cases h2 : cnt8 10 s < 60
    · rw [if_neg (by simp; omega), if_pos (by omega)]
    · rw [if_pos (by simp; omega), if_neg (by omega)]
/-- The reference's parts: what is done, and the rest. -/
theorem F79_L7_eq (s : S) (hs : s.length < 1000000) : ∀ (m a i : Nat) (done : List S), s.length < m + i → a ≤ i → i ≤ s.length → 10 ∉ (s.take i).drop a → done.length + s.length - i < 1000000 →
    F79_L7 s m (done ++ [[]]) (a : Int) (i : Int) = some (done ++ splitC 10 (s.drop a))
  | 0, a, i, done, h1, h2, h3, h4, h5 => by omega
  | m + 1, a, i, done, h1, h2, h3, h4, h5 => by
    rw [F79_L7]
    have e1 : ((done ++ [([] : S)]).length : Int) - 1 = ((done.length : Nat) : Int) := by simp
    by_cases hi : i < s.length
    · rw [if_pos (by simpa using hi), ix_nat hi]
      simp only [bsome, rng_succ (show i < 4611686018427387904 by omega)]
      by_cases hc : s[i] = 10
      · rw [if_pos (by rw [hc]; rfl), e1, rng_nat (by omega), cutI_nat h2 (by omega)]
        simp only [bsome]
        rw [ix_nat (by simp), need_ok (by unfold lim; simp; omega)]
        simp only [bsome, Int.toNat_natCast]
        have hsp : s.drop a = (s.take i).drop a ++ 10 :: s.drop (i + 1) := by
          have e1 : s = s.take i ++ s[i] :: s.drop (i + 1) := by simp
          have e2 : s.drop a = (s.take i ++ s[i] :: s.drop (i + 1)).drop a := by rw [← e1]
          rw [e2, List.drop_append_of_le_length (by simp; omega), hc]
        rw [hsp, splitC_mid 10 _ _ h4, List.set_append_right _ _ (Nat.le_refl _), Nat.sub_self, List.set_cons_zero]
        rw [F79_L7_eq s hs m (i + 1) (i + 1) (done ++ [(s.take i).drop a]) (by omega) (Nat.le_refl _) (by omega) (by simp) (by simp; omega)]
        simp
      · rw [if_neg (by simp; exact fun e => hc (by rw [← UInt8.toNat_inj]; exact Int.ofNat.inj e))]
        refine F79_L7_eq s hs m a (i + 1) done (by omega) (by omega) (by omega) ?_ (by omega)
        rw [List.take_succ_eq_append_getElem hi, List.drop_append_of_le_length (by simp; omega)]
        simp [h4]
        exact fun e => hc e.symm
    · rw [if_neg (by simpa using hi), e1, rng_nat (by omega), cutI_end (by omega)]
      have : i = s.length := by omega
      subst this
      simp only [bsome]
      rw [ix_nat (by simp)]
      rw [List.take_length] at h4
      rw [splitC_none 10 _ h4]
      simp
theorem F79_eq {n : Nat} (s : S) (hs : s.length < 500000) (hn : s.length < n) : F79 n s = some (splitC 10 s) := by
  unfold F79
  have := F79_L7_eq s (by omega) n 0 0 [] (by omega) (Nat.le_refl _) (by omega) (by simp) (by simp; omega)
  simpa using this
theorem F45_eq {n : Nat} (s : S) (hn : 3000 < n) : F45 n s = some (txtE s) := by
  unfold F45 txtE
  by_cases h : 2000 < s.length
  · rw [if_pos (by simp; omega), if_neg (by omega)]
  · rw [if_neg (by simp; omega), F79_eq s (by omega) (by omega)]
    simp only [bsome, splitC_length]
    by_cases h2 : cnt8 10 s < 60
    · rw [if_neg (by simp; omega), if_pos (by omega)]
    · rw [if_pos (by simp; omega), if_neg (by omega)]
/-! Trees. -/
/-- Is it right from i on: paths are paths, and each one is greater than the one ahead of it. -/
def okFrom (t : List GFile) (i : Nat) : Bool := ((List.range' i (t.length - i)).all fun j => match t[j]? with
  | some x => okPath x.path_ && (decide (j = 0) || match t[j - 1]? with
    | some y => decide (y.path_ < x.path_)
    | none => false)
  | none => false)
theorem okFrom_end {t : List GFile} : okFrom t t.length = true := by simp [okFrom]
theorem okFrom_step {t : List GFile} {i : Nat} (h : i < t.length) : okFrom t i = (okPath t[i].path_ && (decide (i = 0) || decide ((t[i - 1]'(by omega)).path_ < t[i].path_)) && okFrom t (i + 1)) := by
  unfold okFrom
  rw [show t.length - i = (t.length - (i + 1)) + 1 by omega, List.range'_succ, List.all_cons]
  congr 1
  simp only [List.getElem?_eq_getElem h, List.getElem?_eq_getElem (show i - 1 < t.length by omega)]
def txtFrom (t : List GFile) (i : Nat) : Int := match (t.drop i).find? fun x => txtE x.text_ != 0 with
  | some x => txtE x.text_
  | none => 0
theorem txtFrom_end {t : List GFile} : txtFrom t t.length = 0 := by simp [txtFrom]
theorem txtFrom_step {t : List GFile} {i : Nat} (h : i < t.length) : txtFrom t i = if txtE t[i].text_ != 0 then txtE t[i].text_ else txtFrom t (i + 1) := by
  unfold txtFrom
  rw [List.drop_eq_getElem_cons h, List.find?_cons]
  cases e : (txtE t[i].text_ != 0) <;> simp
/-- What is wrong with a tree. -/
def chk (t : List GFile) : Int := if 12 < t.length then 4 else if okFrom t 0 = true then txtFrom t 0 else 8
theorem F17_L39_eq {n : Nat} (t : List GFile) (ht : t.length ≤ 12) : ∀ (m i : Nat), t.length < m + i → i ≤ t.length → F17_L39 n t m (i : Int) = some (txtFrom t i)
  | 0, i, h1, h2 => by omega
  | m + 1, i, h1, h2 => by
    rw [F17_L39]
    by_cases hi : i < t.length
    · rw [if_pos (by simpa using hi), ix_nat hi]
      simp only [bsome, F39_eq, rng_succ (show i < 4611686018427387904 by omega)]
      rw [txtFrom_step hi]
      cases e : (txtE t[i].text_ != 0) with
      | true => simp
      | false => simpa using F17_L39_eq t ht m (i + 1) (by omega) (by omega)
    · rw [if_neg (by simpa using hi)]
      have : i = t.length := by omega
      subst this
      rw [txtFrom_end]
theorem F13_L39_eq {n : Nat} (hn : 3000 < n) (t : List GFile) (ht : t.length ≤ 12) : ∀ (m i : Nat), t.length < m + i → i ≤ t.length → F13_L39 n t m (i : Int) = some (txtFrom t i)
  | 0, i, h1, h2 => by omega
  | m + 1, i, h1, h2 => by
    rw [F13_L39]
    by_cases hi : i < t.length
    · rw [if_pos (by simpa using hi), ix_nat hi]
      simp only [bsome, F45_eq _ hn, rng_succ (show i < 4611686018427387904 by omega)]
      rw [txtFrom_step hi]
      cases e : (txtE t[i].text_ != 0) with
      | true => simp
      | false => simpa using F13_L39_eq hn t ht m (i + 1) (by omega) (by omega)
    · rw [if_neg (by simpa using hi)]
      have : i = t.length := by omega
      subst this
      rw [txtFrom_end]
theorem less_eq (a b : S) : Op.bytesLess a b = decide (a < b) := bytesLess_eq a b
theorem F17_L8_eq {n : Nat} (hn : 3000 < n) (t : List GFile) (ht : t.length ≤ 12) : ∀ (m i : Nat), t.length < m + i → i ≤ t.length → F17_L8 n t m (i : Int) = some (if okFrom t i = true then txtFrom t 0 else 8)
  | 0, i, h1, h2 => by omega
  | m + 1, i, h1, h2 => by
    rw [F17_L8]
    by_cases hi : i < t.length
    · rw [if_pos (by simpa using hi), ix_nat hi]
      simp only [bsome, F38_eq _ (show 100 < n by omega), rng_succ (show i < 4611686018427387904 by omega)]
      rw [okFrom_step hi]
      cases e : okPath t[i].path_ with
      | false => simp
      | true =>
        simp only [if_true]
        have ih := F17_L8_eq hn t ht m (i + 1) (by omega) (by omega)
        by_cases h0 : 0 < i
        · rw [if_pos (by simpa using h0), show ((i : Int) - 1) = ((i - 1 : Nat) : Int) by omega, rng_nat (by omega)]
          simp only [bsome]
          rw [ix_nat (show i - 1 < t.length by omega)]
          simp only [bsome, less_eq]
          have hz : decide (i = 0) = false := by simp; omega
          rw [hz, Bool.false_or, Bool.true_and]
          by_cases hl : (t[i - 1]'(by omega)).path_ < t[i].path_
          · rw [decide_eq_true hl]; simpa using ih
          · rw [decide_eq_false hl]; simp
        · rw [if_neg (by simpa using h0)]
          have hz : i = 0 := by omega
          subst hz
          simpa using ih
    · rw [if_neg (by simpa using hi)]
      have : i = t.length := by omega
      subst this
      rw [okFrom_end, if_pos rfl]
      exact F17_L39_eq t ht n 0 (by omega) (by omega)
theorem F13_L8_eq {n : Nat} (hn : 3000 < n) (t : List GFile) (ht : t.length ≤ 12) : ∀ (m i : Nat), t.length < m + i → i ≤ t.length → F13_L8 n t m (i : Int) = some (if okFrom t i = true then txtFrom t 0 else 8)
  | 0, i, h1, h2 => by omega
  | m + 1, i, h1, h2 => by
    rw [F13_L8]
    by_cases hi : i < t.length
    · rw [if_pos (by simpa using hi), ix_nat hi]
      simp only [bsome, F44_eq _ (show 100 < n by omega), rng_succ (show i < 4611686018427387904 by omega)]
      rw [okFrom_step hi]
      cases e : okPath t[i].path_ with
      | false => simp
      | true =>
        simp only [Bool.not_true, Bool.false_eq_true, if_false]
        have ih := F13_L8_eq hn t ht m (i + 1) (by omega) (by omega)
        by_cases h0 : 0 < i
        · rw [if_pos (by simpa using h0), show ((i : Int) - 1) = ((i - 1 : Nat) : Int) by omega, rng_nat (by omega)]
          simp only [bsome]
          rw [ix_nat (show i - 1 < t.length by omega)]
          simp only [bsome, less_eq]
          have hz : decide (i = 0) = false := by simp; omega
          rw [hz, Bool.false_or, Bool.true_and]
          by_cases hl : (t[i - 1]'(by omega)).path_ < t[i].path_
          · rw [decide_eq_true hl]; simpa using ih
          · rw [decide_eq_false hl]; simp
        · rw [if_neg (by simpa using h0)]
          have hz : i = 0 := by omega
          subst hz
          simpa using ih
    · rw [if_neg (by simpa using hi)]
      have : i = t.length := by omega
      subst this
      rw [okFrom_end, if_pos rfl]
      exact F13_L39_eq hn t ht n 0 (by omega) (by omega)
theorem F17_eq {n : Nat} (hn : 3000 < n) (t : List GFile) : F17 n t = some (chk t) := by
  unfold F17 chk
  by_cases h : 12 < t.length
  · rw [if_pos (by simp; omega), if_pos h]
  · rw [if_neg (by simp; omega), if_neg h]
    exact F17_L8_eq hn t (by omega) n 0 (by omega) (by omega)
theorem F13_eq {n : Nat} (hn : 3000 < n) (t : List GFile) : F13 n t = some (chk t) := by
  unfold F13 chk
  by_cases h : 12 < t.length
  · rw [if_pos (by simp; omega), if_pos h]
  · rw [if_neg (by simp; omega), if_neg h]
    exact F13_L8_eq hn t (by omega) n 0 (by omega) (by omega)
theorem F37_eq {n : Nat} (hn : 100 < n) (t : List GFile) : ∃ r, F37 n t = some r ∧ (r = false → t.length ≤ 40 ∧ ∀ x ∈ t, x.path_.length ≤ 200 ∧ x.text_.length ≤ 3000) := by
  have key : ∀ (m i : Nat), 42 < m + i → i ≤ t.length → i ≤ 41 → (∀ x ∈ t.take i, x.path_.length ≤ 200 ∧ x.text_.length ≤ 3000) → ∃ r, F37_L5 t m (i : Int) = some r ∧ (r = false → t.length ≤ 40 ∧ ∀ x ∈ t, x.path_.length ≤ 200 ∧ x.text_.length ≤ 3000) := by
    intro m
    induction m with
    | zero => intro i h1 h2 h3; omega
    | succ m ih =>
      intro i h1 h2 h3 h4
      rw [F37_L5]
      by_cases hi : i < t.length ∧ i ≤ 40
      · obtain ⟨hi, hi2⟩ := hi
        rw [if_pos (by simp; omega), ix_nat hi]
        simp only [bsome, rng_succ (show i < 4611686018427387904 by omega)]
        cases e : ((decide ((t[i].path_.length : Int) > 200)) || (decide ((t[i].text_.length : Int) > 3000))) with
        | true => exact ⟨true, by simp, by simp⟩
        | false =>
          simp only [Bool.false_eq_true, if_false]
          simp at e
          refine ih (i + 1) (by omega) (by omega) (by omega) ?_
          intro x hx
          rw [List.take_succ_eq_append_getElem hi, List.mem_append] at hx
          rcases hx with hx | hx
          · exact h4 x hx
          · simp at hx; subst hx; omega
      · rw [if_neg (by simp; omega)]
        refine ⟨_, rfl, fun hr => ?_⟩
        simp at hr
        have : i = t.length := by omega
        subst this
        rw [List.take_length] at h4
        exact ⟨by omega, h4⟩
  exact key n 0 (by omega) (by omega) (by omega) (by simp)
theorem F41_eq {n : Nat} (t : List GFile) (ht : t.length < 1000000) (hx : ∀ x ∈ t, x.text_.length ≤ lim) (hn : t.length < n) : F41 n t = some t := by
  have key : ∀ (m i : Nat), t.length < m + i → i ≤ t.length → F41_L6 t m (t.take i) (i : Int) = some t := by
    intro m
    induction m with
    | zero => intro i h1 h2; omega
    | succ m ih =>
      intro i h1 h2
      rw [F41_L6]
      by_cases hi : i < t.length
      · rw [if_pos (by simpa using hi), ix_nat hi]
        have hlm : lmt t[i].text_ = some t[i].text_ := by unfold lmt; rw [if_pos (hx _ (List.getElem_mem hi))]
        simp only [bsome, hlm, rng_succ (show i < 4611686018427387904 by omega)]
        rw [need_ok (by unfold lim; simp; omega)]
        simp only [bsome]
        rw [show (t.take i ++ [(⟨t[i].path_, t[i].text_⟩ : GFile)]) = t.take (i + 1) from (List.take_succ_eq_append_getElem hi).symm]
        exact ih (i + 1) (by omega) (by omega)
      · rw [if_neg (by simpa using hi)]
        have : i = t.length := by omega
        subst this
        rw [List.take_length]
  exact key n 0 (by omega) (by omega)
theorem F15_eq {n : Nat} (a b : List GFile) (ha : a.length < 1000000) (hn : a.length < n) : ∃ r, F15 n a b = some r ∧ (a = b → r = true) := by
  unfold F15
  by_cases hl : a.length = b.length
  · rw [if_neg (by simp; omega)]
    have key : ∀ (m i : Nat), a.length < m + i → i ≤ a.length → ∃ r, F15_L8 a b m (i : Int) = some r ∧ (a = b → r = true) := by
      intro m
      induction m with
      | zero => intro i h1 h2; omega
      | succ m ih =>
        intro i h1 h2
        rw [F15_L8]
        by_cases hi : i < a.length
        · rw [if_pos (by simpa using hi), ix_nat hi, ix_nat (show i < b.length by omega)]
          simp only [bsome, rng_succ (show i < 4611686018427387904 by omega)]
          cases e1 : (!(a[i].path_ == (b[i]'(by omega)).path_)) with
          | true => exact ⟨false, by simp, fun h => by subst h; simp at e1⟩
          | false =>
            cases e2 : (!(a[i].text_ == (b[i]'(by omega)).text_)) with
            | true => exact ⟨false, by simp, fun h => by subst h; simp at e2⟩
            | false => simpa using ih (i + 1) (by omega) (by omega)
        · rw [if_neg (by simpa using hi)]
          exact ⟨true, rfl, fun _ => rfl⟩
    exact key n 0 (by omega) (by omega)
  · rw [if_pos (by simp; omega)]
    exact ⟨false, rfl, fun h => by subst h; exact absurd rfl hl⟩
theorem F10_eq {n : Nat} (t : List GFile) (p : S) (ht : t.length < 1000000) (hn : t.length < n) : F10 n t p = some (match t.find? fun x => x.path_ == p with
    | some x => (x.text_, true)
    | none => ([], false)) := by
  have key : ∀ (m i : Nat), t.length < m + i → i ≤ t.length → F10_L5 t p m (i : Int) = some (match (t.drop i).find? fun x => x.path_ == p with
    | some x => (x.text_, true)
    | none => ([], false)) := by
    intro m
    induction m with
    | zero => intro i h1 h2; omega
    | succ m ih =>
      intro i h1 h2
      rw [F10_L5]
      by_cases hi : i < t.length
      · rw [if_pos (by simpa using hi), ix_nat hi]
        simp only [bsome, rng_succ (show i < 4611686018427387904 by omega)]
        rw [List.drop_eq_getElem_cons hi, List.find?_cons]
        cases e : (t[i].path_ == p) with
        | true => simp
        | false => simpa using ih (i + 1) (by omega) (by omega)
      · rw [if_neg (by simpa using hi)]
        have : i = t.length := by omega
        subst this
        simp
  exact key n 0 (by omega) (by omega)
end Go.Proofs.YtdddbifjkkhpbaaGreatDoor.G
namespace Go.Proofs.YtdddbifjkkhpbaaGreatDoor.G
open Go Go.Zv Go.Proofs Go.Proofs.YtdddbifjkkhpbaaGreatDoor
set_option maxRecDepth 100000
attribute [local simp high] bsome
theorem cmp_spec : ∀ (a b : S), (Lib.compareBytes a b < 0 ↔ a < b) ∧ (Lib.compareBytes a b = 0 ↔ a = b)
  | [], [] => by simp [Lib.compareBytes]
  | [], b :: v => by simp [Lib.compareBytes]
  | a :: u, [] => by simp [Lib.compareBytes]
  | a :: u, b :: v => by
    obtain ⟨h1, h2⟩ := cmp_spec u v
    unfold Lib.compareBytes
    by_cases h : a < b
    · have hne : a ≠ b := fun e => by subst e; exact absurd h (UInt8.lt_irrefl a)
      rw [if_pos h, List.cons_lt_cons_iff]
      simp [h, hne]
    · by_cases h' : b < a
      · have hne : a ≠ b := fun e => by subst e; exact absurd h' (UInt8.lt_irrefl a)
        rw [if_neg h, if_pos h', List.cons_lt_cons_iff]
        simp [h, hne]
      · have he : a = b := by
          have e1 : ¬ a.toNat < b.toNat := fun e => h (UInt8.lt_iff_toNat_lt.2 e)
          have e2 : ¬ b.toNat < a.toNat := fun e => h' (UInt8.lt_iff_toNat_lt.2 e)
          exact UInt8.toNat_inj.1 (by omega)
        subst he
        rw [if_neg h, if_neg h', List.cons_lt_cons_iff, h1, h2]
        simp [h]
theorem s_irrefl (a : S) : ¬ a < a := List.lt_irrefl a
theorem s_trans {a b c : S} (h1 : a < b) (h2 : b < c) : a < c := List.lt_trans h1 h2
theorem s_tri : ∀ (a b : S), a < b ∨ a = b ∨ b < a
  | [], [] => .inr (.inl rfl)
  | [], b :: v => .inl (by simp)
  | a :: u, [] => .inr (.inr (by simp))
  | a :: u, b :: v => by
    simp only [List.cons_lt_cons_iff, List.cons.injEq]
    by_cases h : a < b
    · exact .inl (.inl h)
    · by_cases h' : b < a
      · exact .inr (.inr (.inl h'))
      · have he : a = b := by
          have e1 : ¬ a.toNat < b.toNat := fun e => h (UInt8.lt_iff_toNat_lt.2 e)
          have e2 : ¬ b.toNat < a.toNat := fun e => h' (UInt8.lt_iff_toNat_lt.2 e)
          exact UInt8.toNat_inj.1 (by omega)
        subst he
        rcases s_tri u v with h1 | h1 | h1
        · exact .inl (.inr ⟨rfl, h1⟩)
        · exact .inr (.inl ⟨rfl, h1⟩)
        · exact .inr (.inr (.inr ⟨rfl, h1⟩))
abbrev Sorted (t : List GFile) : Prop := t.Pairwise fun x y => x.path_ < y.path_
theorem okFrom_all {t : List GFile} : ∀ {i : Nat}, i ≤ t.length → okFrom t i = true → ∀ j (h : j < t.length), i ≤ j → okPath t[j].path_ = true ∧ (j = 0 ∨ (t[j - 1]'(by omega)).path_ < t[j].path_) := by
  intro i hi ho j h hij
  unfold okFrom at ho
  rw [List.all_eq_true] at ho
  have := ho j (List.mem_range'_1.2 ⟨hij, by omega⟩)
  rw [List.getElem?_eq_getElem h, List.getElem?_eq_getElem (show j - 1 < t.length by omega)] at this
  simpa using this
theorem okFrom_of {t : List GFile} (h : ∀ j (h : j < t.length), okPath t[j].path_ = true ∧ (j = 0 ∨ (t[j - 1]'(by omega)).path_ < t[j].path_)) : okFrom t 0 = true := by
  unfold okFrom
  rw [List.all_eq_true]
  intro j hj
  have hj' : j < t.length := by have := List.mem_range'_1.1 hj; omega
  rw [List.getElem?_eq_getElem hj', List.getElem?_eq_getElem (show j - 1 < t.length by omega)]
  simpa using h j hj'
theorem sorted_of_ok {t : List GFile} (h : okFrom t 0 = true) : Sorted t := by
  have hs := okFrom_all (Nat.zero_le _) h
  rw [Sorted, List.pairwise_iff_getElem]
  intro i j hi hj hij
  have key : ∀ d, ∀ j (hj : j < t.length), j = i + d + 1 → t[i].path_ < t[j].path_ := by
    intro d
    induction d with
    | zero =>
      intro j hj e
      have := (hs j hj (by omega)).2.resolve_left (by omega)
      simpa [show j - 1 = i by omega] using this
    | succ d ih =>
      intro j hj e
      have h1 := ih (j - 1) (by omega) (by omega)
      have h2 := (hs j hj (by omega)).2.resolve_left (by omega)
      exact s_trans h1 h2
  exact key (j - i - 1) j hj (by omega)
theorem txtE_cases (s : S) : txtE s = 0 ∨ txtE s = 4 := by unfold txtE; split <;> simp
theorem chk_iff {t : List GFile} : chk t = 0 ↔ t.length ≤ 12 ∧ (∀ x ∈ t, okPath x.path_ = true) ∧ Sorted t ∧ ∀ x ∈ t, txtE x.text_ = 0 := by
  unfold chk
  by_cases h : 12 < t.length
  · rw [if_pos h]; simp; omega
  rw [if_neg h]
  by_cases ho : okFrom t 0 = true
  · rw [if_pos ho]
    have hs := okFrom_all (Nat.zero_le _) ho
    have hp : ∀ x ∈ t, okPath x.path_ = true := by
      intro x hx
      obtain ⟨j, hj, rfl⟩ := List.mem_iff_getElem.1 hx
      exact (hs j hj (by omega)).1
    have ht : txtFrom t 0 = 0 ↔ ∀ x ∈ t, txtE x.text_ = 0 := by
      unfold txtFrom
      rw [List.drop_zero]
      cases e : t.find? (fun x => txtE x.text_ != 0) with
      | none =>
        rw [List.find?_eq_none] at e
        simpa using e
      | some x =>
        have h1 := List.mem_of_find?_eq_some e
        have h2 := List.find?_some e
        simp at h2
        simp only
        exact ⟨fun h => absurd h h2, fun h => absurd (h x h1) h2⟩
    rw [ht]
    exact ⟨fun h4 => ⟨by omega, hp, sorted_of_ok ho, h4⟩, fun h => h.2.2.2⟩
  · rw [if_neg ho]
    refine ⟨fun h => by omega, fun ⟨_, h2, h3, _⟩ => absurd (okFrom_of fun j hj => ⟨h2 _ (List.getElem_mem hj), ?_⟩) ho⟩
    by_cases h0 : j = 0
    · exact .inl h0
    · exact .inr (List.pairwise_iff_getElem.1 h3 (j - 1) j (by omega) hj (by omega))
/-- The place of a path. -/
structure Pos (t : List GFile) (p : S) (k : Nat) : Prop where
  le : k ≤ t.length
  lo : ∀ j (h : j < t.length), j < k → t[j].path_ < p
  hi : ∀ j (h : j < t.length), k ≤ j → ¬ t[j].path_ < p
def isAt (t : List GFile) (p : S) (k : Nat) : Bool := match t[k]? with
  | some x => x.path_ == p
  | none => false
theorem F75_eq {n : Nat} {t : List GFile} {p : S} (hs : Sorted t) (ht : t.length < 1000000) : ∀ (m i j : Nat), j - i < m → i ≤ j → j ≤ t.length → (∀ k (h : k < t.length), k < i → t[k].path_ < p) → (∀ k (h : k < t.length), j ≤ k → ¬ t[k].path_ < p) →
    ∃ k, Pos t p k ∧ F75_L6 n t p m (i : Int) (j : Int) = some ((k : Int), isAt t p k)
  | 0, i, j, h1, h2, h3, h4, h5 => by omega
  | m + 1, i, j, h1, h2, h3, h4, h5 => by
    rw [F75_L6]
    have h76 : ∀ x : GFile, F76 n x.path_ x.text_ p = some (Lib.compareBytes x.path_ p) := fun x => by simp [F76, F77, F119]
    by_cases hij : i < j
    · have hh : (((i + j : Nat) : Int).fdiv 2) = (((i + j) / 2 : Nat) : Int) := by
        rw [Int.fdiv_eq_ediv_of_nonneg _ (by omega)]; omega
      rw [if_pos (by simpa using hij), show ((i : Int) + (j : Int)) = ((i + j : Nat) : Int) by omega, rng_nat (by omega)]
      simp only [bsome, hh]
      rw [need_ok (wrapLu64 (by omega) (by omega)), need_ok (wrapL (by omega) (by omega))]
      simp only [bsome]
      rw [ix_nat (show (i + j) / 2 < t.length by omega)]
      simp only [bsome, h76]
      by_cases hc : (t[(i + j) / 2]'(by omega)).path_ < p
      · rw [if_pos (by simpa using (cmp_spec _ _).1.2 hc), rng_succ (by omega)]
        simp only [bsome]
        refine F75_eq hs ht m ((i + j) / 2 + 1) j (by omega) (by omega) h3 ?_ h5
        intro k hk hk2
        by_cases e : k = (i + j) / 2
        · subst e; exact hc
        · exact s_trans (List.pairwise_iff_getElem.1 hs k ((i + j) / 2) hk (by omega) (by omega)) hc
      · rw [if_neg (by simpa using fun e => hc ((cmp_spec _ _).1.1 e))]
        refine F75_eq hs ht m i ((i + j) / 2) (by omega) (by omega) (by omega) h4 ?_
        intro k hk hk2 hlt
        by_cases e : k = (i + j) / 2
        · subst e; exact hc hlt
        · exact hc (s_trans (List.pairwise_iff_getElem.1 hs ((i + j) / 2) k (by omega) hk (by omega)) hlt)
    · rw [if_neg (by simpa using hij)]
      have : i = j := by omega
      subst this
      refine ⟨i, ⟨h3, h4, h5⟩, ?_⟩
      by_cases hi : i < t.length
      · rw [if_pos (by simpa using hi), ix_nat hi]
        simp only [bsome, h76, isAt, List.getElem?_eq_getElem hi]
        congr 2
        rw [Bool.eq_iff_iff]
        simpa using (cmp_spec _ _).2
      · rw [if_neg (by simpa using hi)]
        simp [isAt, List.getElem?_eq_none (Nat.le_of_not_lt hi)]
theorem F42_eq {n : Nat} {t : List GFile} {p : S} (hs : Sorted t) (ht : t.length < 1000000) (hn : t.length < n) : ∃ k, Pos t p k ∧ F42 n t p = some ((k : Int), isAt t p k) := by
  obtain ⟨k, h1, h2⟩ := F75_eq (n := n) (p := p) hs ht n 0 t.length (by omega) (by omega) (Nat.le_refl _) (fun k h h' => by omega) (fun k h h' => by omega)
  refine ⟨k, h1, ?_⟩
  unfold F42 F75
  rw [show ((0 : Nat) : Int) = 0 from rfl] at h2
  rw [h2]
  rfl
theorem Pos.unique {t : List GFile} {p : S} {k k' : Nat} (h : Pos t p k) (h' : Pos t p k') : k = k' := by
  have := h.le; have := h'.le
  rcases Nat.lt_trichotomy k k' with e | e | e
  · exact absurd (h'.lo k (by omega) e) (h.hi k (by omega) (Nat.le_refl _))
  · exact e
  · exact absurd (h.lo k' (by omega) e) (h'.hi k' (by omega) (Nat.le_refl _))
/-- A tree by what is found in it. -/
theorem find_sorted {t : List GFile} (hs : Sorted t) {x : GFile} (hx : x ∈ t) : t.find? (fun y => y.path_ == x.path_) = some x := by
  induction t with
  | nil => cases hx
  | cons y ys ih =>
    rw [List.find?_cons]
    rw [Sorted, List.pairwise_cons] at hs
    rcases List.mem_cons.1 hx with e | e
    · subst e; simp
    · have : y.path_ ≠ x.path_ := fun h => s_irrefl x.path_ (h ▸ hs.1 x e)
      have hb : (y.path_ == x.path_) = false := by simpa using this
      rw [hb]
      exact ih hs.2 e
theorem find_none {t : List GFile} {p : S} (h : ∀ x ∈ t, x.path_ ≠ p) : t.find? (fun y => y.path_ == p) = none := by
  rw [List.find?_eq_none]
  intro x hx
  simpa using h x hx
theorem isAt_mem {t : List GFile} {p : S} {k : Nat} (hs : Sorted t) (hp : Pos t p k) : isAt t p k = true ↔ ∃ x ∈ t, x.path_ = p := by
  constructor
  · intro h
    unfold isAt at h
    split at h
    · rename_i x hx
      exact ⟨x, List.mem_of_getElem? hx, by simpa using h⟩
    · cases h
  · rintro ⟨x, hx, rfl⟩
    obtain ⟨j, hj, rfl⟩ := List.mem_iff_getElem.1 hx
    have h1 : ¬ j < k := fun e => s_irrefl _ (hp.lo j hj e)
    have h2 : ¬ k < j := fun e => hp.hi k (by omega) (Nat.le_refl _) (List.pairwise_iff_getElem.1 hs k j (by omega) hj e)
    have : j = k := by omega
    subst this
    simp [isAt, hj]
/-- A tree with a file in its place. -/
def putAt (t : List GFile) (x : GFile) (k : Nat) : List GFile := if isAt t x.path_ k = true then t.set k x else t.take k ++ (x :: t.drop k)
theorem putAt_eq {t : List GFile} {x : GFile} {k : Nat} (hk : k ≤ t.length) : putAt t x k = t.take k ++ (x :: t.drop (k + cond (isAt t x.path_ k) 1 0)) := by
  unfold putAt
  cases e : isAt t x.path_ k with
  | false => simp
  | true =>
    have hk' : k < t.length := by
      unfold isAt at e
      split at e
      · rename_i y hy; exact (List.getElem?_eq_some_iff.1 hy).1
      · cases e
    rw [if_pos rfl, List.set_eq_take_append_cons_drop, if_pos hk', cond_true]
theorem putAt_mem {t : List GFile} {x y : GFile} {k : Nat} (hs : Sorted t) (hp : Pos t x.path_ k) : y ∈ putAt t x k ↔ y = x ∨ (y ∈ t ∧ y.path_ ≠ x.path_) := by
  rw [putAt_eq hp.le]
  have hsplit : t = t.take k ++ t.drop k := (List.take_append_drop k t).symm
  have hlo : ∀ z ∈ t.take k, z.path_ < x.path_ := by
    intro z hz
    obtain ⟨j, hj, rfl⟩ := List.mem_iff_getElem.1 hz
    rw [List.length_take] at hj
    rw [List.getElem_take]
    exact hp.lo j (by omega) (by omega)
  have hne : ∀ {z : GFile}, z.path_ < x.path_ → z.path_ ≠ x.path_ := fun h e => s_irrefl _ (e ▸ h)
  cases e : isAt t x.path_ k with
  | false =>
    rw [cond_false, Nat.add_zero]
    have hno : ∀ z ∈ t, z.path_ ≠ x.path_ := fun z hz h => by
      have := (isAt_mem hs hp).2 ⟨z, hz, h⟩
      rw [e] at this; cases this
    simp only [List.mem_append, List.mem_cons]
    constructor
    · rintro (h | h | h)
      · exact .inr ⟨List.mem_of_mem_take h, hno _ (List.mem_of_mem_take h)⟩
      · exact .inl h
      · exact .inr ⟨List.mem_of_mem_drop h, hno _ (List.mem_of_mem_drop h)⟩
    · rintro (h | ⟨h, _⟩)
      · exact .inr (.inl h)
      · rw [hsplit] at h
        rcases List.mem_append.1 h with h | h
        · exact .inl h
        · exact .inr (.inr h)
  | true =>
    rw [cond_true]
    have hk : k < t.length := by
      unfold isAt at e
      split at e
      · rename_i y hy; exact (List.getElem?_eq_some_iff.1 hy).1
      · cases e
    have hat : t[k].path_ = x.path_ := by
      unfold isAt at e
      rw [List.getElem?_eq_getElem hk] at e
      simpa using e
    have hhi : ∀ z ∈ t.drop (k + 1), z.path_ ≠ x.path_ := by
      intro z hz h
      obtain ⟨j, hj, rfl⟩ := List.mem_iff_getElem.1 hz
      rw [List.length_drop] at hj
      rw [List.getElem_drop] at h
      have := List.pairwise_iff_getElem.1 hs k (k + 1 + j) hk (by omega) (by omega)
      rw [hat, h] at this
      exact s_irrefl _ this
    simp only [List.mem_append, List.mem_cons]
    constructor
    · rintro (h | h | h)
      · exact .inr ⟨List.mem_of_mem_take h, hne (hlo _ h)⟩
      · exact .inl h
      · exact .inr ⟨List.mem_of_mem_drop h, hhi _ h⟩
    · rintro (h | ⟨h, h'⟩)
      · exact .inr (.inl h)
      · rw [hsplit, List.drop_eq_getElem_cons hk] at h
        rcases List.mem_append.1 h with h | h
        · exact .inl h
        · rcases List.mem_cons.1 h with h | h
          · exact absurd (h ▸ hat) h'
          · exact .inr (.inr h)
theorem putAt_sorted {t : List GFile} {x : GFile} {k : Nat} (hs : Sorted t) (hp : Pos t x.path_ k) : Sorted (putAt t x k) := by
  have hmem := @putAt_mem t x
  rw [putAt_eq hp.le]
  have hlo : ∀ z ∈ t.take k, z.path_ < x.path_ := by
    intro z hz
    obtain ⟨j, hj, rfl⟩ := List.mem_iff_getElem.1 hz
    rw [List.length_take] at hj
    rw [List.getElem_take]
    exact hp.lo j (by omega) (by omega)
  have hhi : ∀ z ∈ t.drop (k + cond (isAt t x.path_ k) 1 0), x.path_ < z.path_ := by
    intro z hz
    obtain ⟨j, hj, rfl⟩ := List.mem_iff_getElem.1 hz
    rw [List.length_drop] at hj
    rw [List.getElem_drop]
    have h1 := hp.hi (k + cond (isAt t x.path_ k) 1 0 + j) (by omega) (by omega)
    rcases s_tri x.path_ (t[k + cond (isAt t x.path_ k) 1 0 + j]'(by omega)).path_ with h | h | h
    · exact h
    · exfalso
      have hm := (isAt_mem hs hp).2 ⟨_, List.getElem_mem (show k + cond (isAt t x.path_ k) 1 0 + j < t.length by omega), h.symm⟩
      have hat : (t[k]'(by omega)).path_ = x.path_ := by
        unfold isAt at hm
        rw [List.getElem?_eq_getElem (show k < t.length by omega)] at hm
        simpa using hm
      have := List.pairwise_iff_getElem.1 hs k (k + cond (isAt t x.path_ k) 1 0 + j) (by omega) (by omega) (by rw [hm, cond_true]; omega)
      rw [hat, ← h] at this
      exact s_irrefl _ this
    · exact absurd h h1
  rw [Sorted, List.pairwise_append]
  refine ⟨hs.sublist (List.take_sublist k t), List.pairwise_cons.2 ⟨hhi, hs.sublist (List.drop_sublist _ t)⟩, ?_⟩
  intro a ha b hb
  rcases List.mem_cons.1 hb with h | h
  · subst h; exact hlo a ha
  · exact s_trans (hlo a ha) (hhi b h)
theorem putAt_pos {t : List GFile} {x : GFile} {k : Nat} (hs : Sorted t) (hp : Pos t x.path_ k) : Pos (putAt t x k) x.path_ k ∧ isAt (putAt t x k) x.path_ k = true ∧ (putAt t x k).take k ++ (putAt t x k).drop (k + 1) = t.take k ++ t.drop (k + cond (isAt t x.path_ k) 1 0) := by
  have hso := putAt_sorted hs hp
  have hlk : (t.take k).length = k := by simp [hp.le]
  have hget : (putAt t x k)[k]? = some x := by
    rw [putAt_eq hp.le, List.getElem?_append_right (by omega), hlk]
    simp
  have hk : k < (putAt t x k).length := (List.getElem?_eq_some_iff.1 hget).1
  have hx : (putAt t x k)[k] = x := (List.getElem?_eq_some_iff.1 hget).2
  refine ⟨⟨by omega, ?_, ?_⟩, ?_, ?_⟩
  · intro j hj hjk
    have := List.pairwise_iff_getElem.1 hso j k hj hk hjk
    rwa [hx] at this
  · intro j hj hjk hlt
    by_cases e : k = j
    · subst e; rw [hx] at hlt; exact s_irrefl _ hlt
    · have := List.pairwise_iff_getElem.1 hso k j hk hj (by omega)
      rw [hx] at this
      exact s_irrefl _ (s_trans this hlt)
  · unfold isAt; rw [hget]; simp
  · rw [putAt_eq hp.le, List.take_append_of_le_length (by omega), List.take_of_length_le (by omega)]
    congr 1
    rw [show k + 1 = (t.take k).length + 1 by omega, List.drop_append, List.drop_of_length_le (by omega)]
    simp
end Go.Proofs.YtdddbifjkkhpbaaGreatDoor.G
namespace Go.Proofs.YtdddbifjkkhpbaaGreatDoor.G
open Go Go.Zv Go.Proofs Go.Proofs.YtdddbifjkkhpbaaGreatDoor
set_option maxRecDepth 100000
attribute [local simp high] bsome
/-- A tree that is right. -/
structure Good (t : List GFile) : Prop where
  le : t.length ≤ 12
  path : ∀ x ∈ t, okPath x.path_ = true
  sorted : Sorted t
  text : ∀ x ∈ t, txtE x.text_ = 0
theorem good_iff {t : List GFile} : chk t = 0 ↔ Good t := by
  rw [chk_iff]
  exact ⟨fun ⟨a, b, c, d⟩ => ⟨a, b, c, d⟩, fun ⟨a, b, c, d⟩ => ⟨a, b, c, d⟩⟩
theorem txt_le {s : S} (h : txtE s = 0) : s.length ≤ lim := by
  unfold txtE at h
  split at h
  · unfold lim; omega
  · cases h
theorem lmt_ok {α : Type} {l : List α} (h : l.length ≤ lim) : lmt l = some l := by unfold lmt; rw [if_pos h]
theorem isAt_get {t : List GFile} {p : S} {k : Nat} (h : isAt t p k = true) : ∃ hk : k < t.length, t[k].path_ = p := by
  unfold isAt at h
  split at h
  · rename_i x hx
    obtain ⟨hk, he⟩ := List.getElem?_eq_some_iff.1 hx
    exact ⟨hk, by rw [he]; simpa using h⟩
  · cases h
section
variable {n : Nat} (hn : 4000 < n)
include hn
theorem F11_good {t : List GFile} (hg : Good t) (p : S) : F11 n t p = some (match t.find? fun x => x.path_ == p with
    | some x => (x.text_, 0)
    | none => ([], 6)) := by
  unfold F11
  rw [F17_eq (by omega), good_iff.2 hg]
  obtain ⟨k, hp, h42⟩ := F42_eq (n := n) (p := p) hg.sorted (by have := hg.le; omega) (by have := hg.le; omega)
  simp only [bsome, h42]
  rw [if_neg (by simp)]
  cases e : isAt t p k with
  | false =>
    rw [if_pos (by simp)]
    have hno : ∀ x ∈ t, x.path_ ≠ p := fun x hx h => by
      have := (isAt_mem hg.sorted hp).2 ⟨x, hx, h⟩
      rw [e] at this; cases this
    rw [find_none hno]
  | true =>
    obtain ⟨hk, hat⟩ := isAt_get e
    rw [if_neg (by simp), ix_nat hk]
    simp only [bsome]
    rw [lmt_ok (txt_le (hg.text _ (List.getElem_mem hk)))]
    have := find_sorted hg.sorted (List.getElem_mem hk)
    rw [hat] at this
    rw [this]
    rfl
theorem F14_good {t : List GFile} (hg : Good t) (p : S) : ∃ k, Pos t p k ∧ F14 n t p = some (if isAt t p k = true then (t.take k ++ t.drop (k + 1), 0) else ([], 6)) := by
  unfold F14
  rw [F17_eq (by omega), good_iff.2 hg]
  obtain ⟨k, hp, h42⟩ := F42_eq (n := n) (p := p) hg.sorted (by have := hg.le; omega) (by have := hg.le; omega)
  refine ⟨k, hp, ?_⟩
  simp only [bsome, h42]
  rw [if_neg (by simp)]
  cases e : isAt t p k with
  | false => rw [if_pos (by simp), if_neg (by simp)]
  | true =>
    obtain ⟨hk, hat⟩ := isAt_get e
    have hle := hg.le
    rw [if_neg (by simp), F41_eq t (by omega) (fun x hx => txt_le (hg.text x hx)) (by omega), if_pos rfl]
    simp only [bsome]
    rw [rng_succ (by omega)]
    simp only [bsome]
    unfold delI
    rw [if_pos ⟨by omega, by omega, by omega, by unfold lim; omega⟩]
    simp
theorem F9_good {t : List GFile} (hg : Good t) (p text : S) : ∃ k, Pos t p k ∧ F9 n t p text = some (if okPath p = true ∧ txtE text = 0 then (if 12 < (putAt t ⟨p, text⟩ k).length then ([], 4) else (putAt t ⟨p, text⟩ k, 0)) else ([], if okPath p = true then 4 else 8)) := by
  have hle := hg.le
  obtain ⟨k, hp, h42⟩ := F42_eq (n := n) (p := p) hg.sorted (by omega) (by omega)
  refine ⟨k, hp, ?_⟩
  unfold F9
  rw [F17_eq (by omega), good_iff.2 hg]
  simp only [bsome]
  rw [if_neg (by simp), F38_eq p (by omega)]
  simp only [bsome]
  cases ep : okPath p with
  | false => simp
  | true =>
    rw [if_neg (by simp), F39_eq]
    simp only [bsome]
    rcases txtE_cases text with et | et
    · rw [et, if_neg (by decide), F41_eq t (by omega) (fun x hx => txt_le (hg.text x hx)) (by omega)]
      simp only [bsome]
      have h40 : F40 n t p text = some (putAt t ⟨p, text⟩ k) := by
        unfold F40
        rw [h42]
        simp only [bsome]
        rw [lmt_ok (txt_le et)]
        simp only [bsome]
        unfold putAt
        cases e : isAt t p k with
        | true =>
          obtain ⟨hk, hat⟩ := isAt_get e
          rw [if_pos rfl, if_pos rfl, ix_nat hk]
          simp
        | false =>
          rw [if_neg (by simp), if_neg (by simp)]
          unfold insI
          rw [if_pos ⟨by omega, by have := hp.le; omega, by simp, by unfold lim; simp; omega⟩]
          simp
      rw [h40]
      simp only [bsome, and_self, if_true]
      by_cases hl : 12 < (putAt t ⟨p, text⟩ k).length
      · rw [if_pos (by simp; omega), if_pos hl]
      · rw [if_neg (by simp; omega), if_neg hl]
    · rw [et, if_pos (by simp), if_neg (by simp)]
      simp
/-- **What is put is got, all other files stay, and what was put and dropped changes nothing.** -/
theorem law (t : List GFile) (path other text : S) : F3 n t path other text = some true := by
  unfold F3
  have h8 : ∃ b, F8 n t [] = some b ∧ (b = true → Good t) := by
    unfold F8
    obtain ⟨a, ha, ha'⟩ := F37_eq (n := n) (by omega) t
    obtain ⟨b, hb, hb'⟩ := F37_eq (n := n) (by omega) []
    rw [ha, hb]
    simp only [bsome]
    cases a with
    | true => exact ⟨false, rfl, fun h => by cases h⟩
    | false =>
      cases b with
      | true => exact ⟨false, rfl, fun h => by cases h⟩
      | false =>
        rw [if_pos (by simp), if_pos (by simp), F13_eq (by omega), F13_eq (by omega)]
        simp only [bsome]
        by_cases hc : chk t = 0
        · rw [if_pos (by simpa using hc)]
          exact ⟨_, rfl, fun _ => good_iff.1 hc⟩
        · rw [if_neg (by simpa using hc)]
          exact ⟨false, rfl, fun h => by cases h⟩
  obtain ⟨b, hb, hgood⟩ := h8
  rw [hb]
  simp only [bsome]
  split
  · rfl
  rename_i hcond
  simp at hcond
  obtain ⟨⟨⟨hbt, hlp⟩, hlo⟩, hlt⟩ := hcond
  have hg := hgood hbt
  have hle := hg.le
  obtain ⟨k, hp, h9⟩ := F9_good hn hg path text
  rw [h9]
  simp only [bsome]
  rw [F10_eq t path (by omega) (by omega)]
  simp only [bsome]
  by_cases hok : okPath path = true ∧ txtE text = 0
  case neg =>
    rw [if_neg hok]
    cases okPath path with
    | true => simp
    | false => simp
  rw [if_pos hok]
  by_cases hl : 12 < (putAt t ⟨path, text⟩ k).length
  · rw [if_pos hl, if_pos (by simp)]; simp
  rw [if_neg hl, if_neg (by simp)]
  generalize hx : putAt t ⟨path, text⟩ k = x at hl
  have hmem : ∀ y, y ∈ x ↔ y = ⟨path, text⟩ ∨ (y ∈ t ∧ y.path_ ≠ path) := fun y => by rw [← hx]; exact putAt_mem (x := ⟨path, text⟩) hg.sorted hp
  have hgx : Good x := by
    refine ⟨by omega, fun y hy => ?_, hx ▸ putAt_sorted (x := ⟨path, text⟩) hg.sorted hp, fun y hy => ?_⟩
    · rcases (hmem y).1 hy with rfl | ⟨h, _⟩
      · exact hok.1
      · exact hg.path y h
    · rcases (hmem y).1 hy with rfl | ⟨h, _⟩
      · exact hok.2
      · exact hg.text y h
  have hnew : (⟨path, text⟩ : GFile) ∈ x := (hmem _).2 (.inl rfl)
  have hfx : x.find? (fun y => y.path_ == path) = some ⟨path, text⟩ := find_sorted hgx.sorted hnew
  rw [F11_good hn hgx path, hfx]
  simp only [bsome, F12]
  rw [if_neg (by simp), if_neg (by simp), F13_eq (by omega), good_iff.2 hgx]
  simp only [bsome]
  rw [if_neg (by simp)]
  -- the last part
  have hJ : F3_J40 n t path (x, 0) (match t.find? fun x => x.path_ == path with
    | some x => (x.text_, true)
    | none => ([], false)) = some true := by
    obtain ⟨q1, q2, q3⟩ := putAt_pos (x := ⟨path, text⟩) hg.sorted hp
    rw [hx] at q1 q2 q3
    obtain ⟨k1, hp1, h14⟩ := F14_good hn hgx path
    obtain ⟨k2, hp2, h14'⟩ := F14_good hn hg path
    have e1 : k1 = k := hp1.unique q1
    have e2 : k2 = k := hp2.unique hp
    subst e1; subst e2
    have hlen : x.length = t.length + cond (isAt t path k2) 0 1 := by
      rw [← hx, putAt_eq hp.le]
      have := hp.le
      show (t.take k2 ++ (⟨path, text⟩ : GFile) :: t.drop (k2 + cond (isAt t path k2) 1 0)).length = _
      cases e : isAt t path k2 with
      | true =>
        obtain ⟨hk, _⟩ := isAt_get e
        simp; omega
      | false => simp; omega
    unfold F3_J40
    simp only [h14, h14', bsome]
    rw [if_pos q2]
    have hfind : (match t.find? fun (x : GFile) => x.path_ == path with
        | some x => (x.text_, true)
        | none => (([] : S), false)).2 = isAt t path k2 := by
      cases e : isAt t path k2 with
      | true =>
        obtain ⟨hk, hat⟩ := isAt_get e
        have := find_sorted hg.sorted (List.getElem_mem hk)
        rw [hat] at this
        rw [this]
      | false =>
        have hno : ∀ y ∈ t, y.path_ ≠ path := fun y hy h => by
          have := (isAt_mem hg.sorted hp).2 ⟨y, hy, h⟩
          rw [e] at this; cases this
        rw [find_none hno]
    rw [hfind]
    cases e : isAt t path k2 with
    | true =>
      rw [e] at q3 hlen
      simp only [cond_true] at q3 hlen
      rw [if_neg (by simp), if_pos rfl, if_pos rfl]
      obtain ⟨r, hr, hr'⟩ := F15_eq (n := n) (x.take k2 ++ x.drop (k2 + 1)) (t.take k2 ++ t.drop (k2 + 1)) (by simp; omega) (by simp; omega)
      rw [hr]
      simp only [bsome]
      rw [hr' q3, hlen]
      simp
    | false =>
      rw [e] at q3 hlen
      simp only [cond_false, Nat.add_zero] at q3 hlen
      rw [if_neg (by simp), if_neg (by simp)]
      rw [List.take_append_drop] at q3
      obtain ⟨r, hr, hr'⟩ := F15_eq (n := n) (x.take k2 ++ x.drop (k2 + 1)) t (by simp; omega) (by simp; omega)
      rw [hr]
      simp only [bsome]
      rw [hr' q3, if_pos rfl, rng_succ (by omega), hlen]
      simp
  split
  · rename_i hne
    have hne : other ≠ path := by simpa using hne
    have hfo : x.find? (fun y => y.path_ == other) = t.find? (fun y => y.path_ == other) := by
      by_cases h : ∃ y ∈ t, y.path_ = other
      · obtain ⟨y, hy, rfl⟩ := h
        rw [find_sorted hg.sorted hy, find_sorted hgx.sorted ((hmem y).2 (.inr ⟨hy, hne⟩))]
      · rw [find_none (t := t) fun y hy e => h ⟨y, hy, e⟩, find_none]
        intro y hy e
        rcases (hmem y).1 hy with rfl | ⟨h1, _⟩
        · exact hne e.symm
        · exact h ⟨y, h1, e⟩
    rw [F11_good hn hg other, F11_good hn hgx other, hfo]
    simp only [bsome]
    rw [if_neg (by simp), if_neg (by simp)]
    exact hJ
  · exact hJ
end
#print axioms law
end Go.Proofs.YtdddbifjkkhpbaaGreatDoor.G
