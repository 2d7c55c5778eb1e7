/- Plain laws: what the plain functions say. No condition. -/
import Derived.Test.YtloekbdlmikkcaaGreatDoorPlainN
import Derived.Sort.Walk0
import Derived.Tactics
set_option linter.unusedSimpArgs false
set_option linter.unusedVariables false
namespace Go.Zv.G
open Go Go.Zv Go.Proofs
set_option maxRecDepth 100000
abbrev S := List UInt8
theorem bsome {α β : Type} (x : α) (f : α → Option β) : (some x).bind f = f x := Eq.trans (Option.bind_some x f) (Eq.refl _)
attribute [local simp high] bsome
theorem ix_nat {α : Type} {l : List α} {i : Nat} (h : i < l.length) : ix l (i : Int) = some l[i] := by
 unfold ix
 rw [if_pos (by omega)]
 simp [h]
theorem ix_zero {α : Type} {l : List α} (h : 0 < l.length) : ix l 0 = some l[0] := ix_nat (i := 0) h
theorem rng_ok {x : Int} (h1 : -9223372036854775808 ≤ x) (h2 : x < 9223372036854775808) : rng x = some x := by
 unfold rng; rw [if_pos ⟨h1, h2⟩]
theorem rng_nat {x : Nat} (h2 : x < 4611686018427387904) : rng (x : Int) = some (x : Int) := rng_ok (by omega) (by omega)
theorem rng_succ {x : Nat} (h2 : x < 4611686018427387904) : rng ((x : Int) + 1) = some ((x + 1 : Nat) : Int) := rng_ok (by omega) (by omega)
theorem need_ok {p : Prop} [Decidable p] (h : p) : need p = some () := by unfold need; rw [if_pos h]
theorem cutI_nat {α : Type} {l : List α} {a b : Nat} (h1 : a ≤ b) (h2 : b ≤ l.length) : cutI l (a : Int) (b : Int) = some ((l.take b).drop a) := by
 unfold cutI
 rw [if_pos (by omega)]
 simp
theorem cutI_end {α : Type} {l : List α} {a : Nat} (h1 : a ≤ l.length) : cutI l (a : Int) (l.length : Int) = some (l.drop a) := by
 rw [cutI_nat h1 (Nat.le_refl _), List.take_length]
theorem cutI_front {α : Type} {l : List α} {b : Nat} (h2 : b ≤ l.length) : cutI l 0 (b : Int) = some (l.take b) := cutI_nat (a := 0) (by omega) h2
def splitC (c : UInt8) : S → List S
 | [] => [[]]
 | x :: xs => if x = c then [] :: splitC c xs else match splitC c xs with
  | [] => [[x]]
  | p :: ps => (x :: p) :: ps
theorem splitC_ne (c : UInt8) : ∀ s : S, splitC c s ≠ []
 | [] => by simp [splitC]
 | x :: xs => by
  unfold splitC
  split
  ·
   simp
  ·
   split <;> simp
theorem splitC_length (c : UInt8) : ∀ s : S, (splitC c s).length = cnt8 c s + 1
 | [] => rfl
 | x :: xs => by
  unfold splitC cnt8
  by_cases h : x = c
  ·
   simp [h, splitC_length c xs]
  ·
   have := splitC_length c xs
   split
   ·
    rename_i e; exact absurd e h
   ·
    split
    ·
     rename_i e; exact absurd e (splitC_ne c xs)
    ·
     rename_i p ps e
     rw [e] at this
     have hb : (x == c) = false := by simpa using h
     simp only [hb, cond_false, List.length_cons]
     simpa using this
theorem splitC_none (c : UInt8) : ∀ s : S, c ∉ s → splitC c s = [s]
 | [], _ => rfl
 | x :: xs, h => by
  have h1 : x ≠ c := fun e => h (by simp [e])
  have h2 : c ∉ xs := fun e => h (by simp [e])
  unfold splitC
  rw [if_neg h1, splitC_none c xs h2]
theorem splitC_mid (c : UInt8) : ∀ (a b : S), c ∉ a → splitC c (a ++ c :: b) = a :: splitC c b
 | [], b, _ => by simp [splitC]
 | x :: xs, b, h => by
  have h1 : x ≠ c := fun e => h (by simp [e])
  have h2 : c ∉ xs := fun e => h (by simp [e])
  rw [List.cons_append, splitC, if_neg h1, splitC_mid c xs b h2]
theorem cnt8_pos {c : UInt8} : ∀ {s : S}, 0 < cnt8 c s ↔ c ∈ s
 | [] => by simp [cnt8]
 | x :: xs => by
  unfold cnt8
  by_cases h : x = c
  ·
   simp [h]
  ·
   have hb : (x == c) = false := by simpa using h
   simp only [hb, cond_false, cnt8_pos (s := xs), List.mem_cons]
   exact ⟨.inr, fun e => e.resolve_left fun e => h e.symm⟩
theorem cnt8_le {c : UInt8} : ∀ {s : S}, cnt8 c s ≤ s.length
 | [] => by simp [cnt8]
 | x :: xs => by
  unfold cnt8
  have := cnt8_le (c := c) (s := xs)
  cases x == c <;> simp <;> omega
theorem cnt8_append (c : UInt8) : ∀ (a b : S), cnt8 c (a ++ b) = cnt8 c a + cnt8 c b
 | [], b => by simp [cnt8]
 | x :: xs, b => by
  rw [List.cons_append, cnt8, cnt8, cnt8_append c xs b]
  cases x == c <;> simp <;> omega
theorem idx8_spec (c : UInt8) : ∀ (s : S) (k : Nat), (c ∉ s ∧ idx8 c s k = -1) ∨ ∃ a b, s = a ++ c :: b ∧ c ∉ a ∧ idx8 c s k = ((k + a.length : Nat) : Int)
 | [], k => .inl ⟨by simp, rfl⟩
 | x :: xs, k => by
  by_cases h : x = c
  ·
   subst h
   exact .inr ⟨[], xs, by simp, by simp, by simp [idx8]⟩
  ·
   have hb : (x == c) = false := by simpa using h
   rcases idx8_spec c xs (k + 1) with ⟨h1, h2⟩ | ⟨a, b, h1, h2, h3⟩
   ·
    refine .inl ⟨by simp [h1]; exact fun e => h e.symm, ?_⟩
    simp only [idx8, hb, cond_false, h2]
   ·
    refine .inr ⟨x :: a, b, by simp [h1], by simp [h2]; exact fun e => h e.symm, ?_⟩
    simp only [idx8, hb, cond_false, h3, List.length_cons]
    omega
def okB (c : UInt8) : Bool := !letG c.toNat
def okPart (s : S) : Bool := !((s == []) || (s == [46]) || (s == [46, 46])) && s.all okB
def okPath (s : S) : Bool := decide (s.length ≤ 60) && (splitC 47 s).all okPart
theorem f_norm_path_1_eq (n : Nat) (s : S) : f_norm_path_1 n s = some (!okPart s) := by
 unfold f_norm_path_1 okPart
 cases e : (((s == ([] : List UInt8)) || (s == ([46] : List UInt8))) || (s == ([46, 46] : List UInt8))) with
 | true => simp
 | false =>
  simp only [Bool.false_eq_true, if_false, Bool.not_false, Bool.true_and]
  congr 1
  unfold okB
  rw [List.all_eq_not_any_not]
  simp
theorem f_slices_IndexFunc_string_by_norm_path_1_L5_eq (n : Nat) (l : List S) (hl : l.length < 1000000) : ∀ (m i : Nat), l.length < m + i → i ≤ l.length → ∃ r, f_slices_IndexFunc_string_by_norm_path_1_L5 n l m (i : Int) = some r ∧ decide (r ≥ 0) = (l.drop i).any fun s => !okPart s
 | 0, i, h1, h2 => by omega
 | m + 1, i, h1, h2 => by
  rw [f_slices_IndexFunc_string_by_norm_path_1_L5]
  by_cases hi : i < l.length
  ·
   rw [if_pos (by simpa using hi), ix_nat hi]
   simp only [bsome, f_norm_path_1_eq, rng_succ (show i < 4611686018427387904 by omega)]
   rw [List.drop_eq_getElem_cons hi, List.any_cons]
   cases e : (!okPart l[i]) with
   | true => exact ⟨i, by simp, by simp⟩
   | false =>
    obtain ⟨r, h3, h4⟩ := f_slices_IndexFunc_string_by_norm_path_1_L5_eq n l hl m (i + 1) (by omega) (by omega)
    exact ⟨r, by simpa using h3, by simpa using h4⟩
  ·
   rw [if_neg (by simpa using hi)]
   have : i = l.length := by omega
   subst this
   exact ⟨-1, rfl, by simp⟩
theorem f_slices_ContainsFunc_string_by_norm_path_1_eq {n : Nat} {l : List S} (hl : l.length < 1000000) (hn : l.length < n) : f_slices_ContainsFunc_string_by_norm_path_1 n l = some (!(l.all okPart)) := by
 unfold f_slices_ContainsFunc_string_by_norm_path_1 f_slices_IndexFunc_string_by_norm_path_1
 obtain ⟨r, h3, h4⟩ := f_slices_IndexFunc_string_by_norm_path_1_L5_eq n l hl n 0 (by omega) (by omega)
 rw [show ((0 : Nat) : Int) = 0 from rfl] at h3
 rw [h3]
 simp only [bsome, h4, List.drop_zero]
 congr 1
 rw [List.all_eq_not_any_not]
 simp
theorem f_stringslite_Index_one (n : Nat) (s : S) (c : UInt8) : f_stringslite_Index n s [c] = some (idx8 c s 0) := by
 simp [f_stringslite_Index, f_stringslite_IndexByte, ix]
 rintro rfl
 simp [idx8]
theorem f_strings_Index_one (n : Nat) (s : S) (c : UInt8) : f_strings_Index n s [c] = some (idx8 c s 0) := by
 simp [f_strings_Index, f_stringslite_Index_one]
theorem f_strings_Count_one (n : Nat) (s : S) (c : UInt8) : f_strings_Count n s [c] = some ((cnt8 c s : Nat) : Int) := by
 simp [f_strings_Count, ix]
theorem f_strings_genSplit_L32_eq (n : Nat) (c : UInt8) : ∀ (m : Nat) (s : S) (done : List S) (k : Nat), cnt8 c s = k → k < m → done.length + k < 1000000 → s.length < 1000000 →
  f_strings_genSplit_L32 n [c] 0 ((done.length + k : Nat) : Int) m s (done ++ List.replicate (k + 1) []) (done.length : Int) = some (done ++ splitC c s)
 | 0, s, done, k, hk, hm, hd, hs => by omega
 | m + 1, s, done, k, hk, hm, hd, hs => by
  rw [f_strings_genSplit_L32]
  have fin : ∀ k', k' = k → c ∉ s → f_strings_genSplit_J19 s (done ++ List.replicate (k' + 1) []) (done.length : Int) = some (done ++ [s]) := by
   intro k' hk' hc
   have h0 : k' = 0 := by
    subst hk'; subst hk
    have := mt cnt8_pos.1 hc
    omega
   subst h0
   unfold f_strings_genSplit_J19
   rw [ix_nat (by simp)]
   simp only [bsome, rng_succ (show done.length < 4611686018427387904 by omega)]
   rw [cutI_front (by simp)]
   simp [List.take_of_length_le]
  by_cases h0 : 0 < k
  ·
   rw [if_pos (by simp; omega), f_strings_Index_one]
   simp only [bsome]
   rcases idx8_spec c s 0 with ⟨h1, h2⟩ | ⟨a, b, h1, h2, h3⟩
   ·
    exact absurd (cnt8_pos.1 (hk ▸ h0)) h1
   ·
    rw [h3]
    have hcb : cnt8 c s = cnt8 c b + 1 := by
     rw [h1, cnt8_append]
     have : cnt8 c a = 0 := by
      have := mt cnt8_pos.1 h2; omega
     simp [cnt8, this]
    have hla : a.length ≤ s.length := by rw [h1]; simp
    rw [if_neg (by simp), Int.add_zero, Nat.zero_add, rng_nat (by omega)]
    simp only [bsome]
    rw [cutI_front hla]
    simp only [bsome]
    rw [ix_nat (by simp)]
    simp only [bsome, List.length_singleton]
    rw [show ((a.length : Int) + ((1 : Nat) : Int)) = ((a.length + 1 : Nat) : Int) by omega, rng_nat (by omega)]
    simp only [bsome]
    rw [cutI_end (by rw [h1]; simp)]
    simp only [bsome, rng_succ (show done.length < 4611686018427387904 by omega)]
    obtain ⟨k', rfl⟩ : ∃ k', k = k' + 1 := ⟨k - 1, by omega⟩
    have hta : s.take a.length = a := by rw [h1]; simp
    have hdb : s.drop (a.length + 1) = b := by rw [h1]; simp
    rw [hta, hdb]
    have hset : (done ++ List.replicate (k' + 1 + 1) ([] : S)).set (Int.toNat (done.length : Int)) a = (done ++ [a]) ++ List.replicate (k' + 1) [] := by
     rw [Int.toNat_natCast, List.set_append_right _ _ (Nat.le_refl _), Nat.sub_self, List.replicate_succ, List.set_cons_zero, List.append_assoc, List.singleton_append]
    rw [hset]
    have ih := f_strings_genSplit_L32_eq n c m b (done ++ [a]) k' (by omega) (by omega) (by simp; omega) (by rw [h1] at hs; simp at hs; omega)
    rw [List.length_append, List.length_singleton] at ih
    rw [show ((done.length + (k' + 1) : Nat) : Int) = ((done.length + 1 + k' : Nat) : Int) by omega]
    rw [ih, h1, splitC_mid c a b h2]
    simp
  ·
   have hk0 : k = 0 := by omega
   subst hk0
   have hc : c ∉ s := fun e => by have := cnt8_pos.2 e; omega
   rw [if_neg (by simp), fin 0 rfl hc, splitC_none c s hc]
theorem f_strings_Split_eq {n : Nat} {s : S} {c : UInt8} (hs : s.length < 1000000) (hn : s.length < n) : f_strings_Split n s [c] = some (splitC c s) := by
 unfold f_strings_Split f_strings_genSplit
 have hle := cnt8_le (c := c) (s := s)
 simp only [f_strings_Count_one, bsome]
 rw [if_neg (by decide), if_neg (by simp), if_pos (by decide), rng_succ (by omega)]
 simp only [bsome]
 unfold f_strings_genSplit_J8
 rw [rng_succ (by omega)]
 simp only [bsome]
 have hmin : (if ((s.length + 1 : Nat) : Int) < ((cnt8 c s + 1 : Nat) : Int) then ((s.length + 1 : Nat) : Int) else ((cnt8 c s + 1 : Nat) : Int)) = ((cnt8 c s + 1 : Nat) : Int) := if_neg (by omega)
 rw [hmin, need_ok ⟨by omega, by omega, by unfold lim; omega⟩]
 simp only [bsome]
 rw [show (((cnt8 c s + 1 : Nat) : Int) - 1) = ((cnt8 c s : Nat) : Int) by omega, rng_nat (by omega)]
 simp only [bsome, Int.toNat_natCast]
 have := f_strings_genSplit_L32_eq n c n s [] (cnt8 c s) rfl (by omega) (by simp; omega) hs
 simp only [List.length_nil, Nat.zero_add, List.nil_append] at this
 rw [show ((0 : Nat) : Int) = 0 from rfl] at this
 rw [this]
 rfl
theorem f_norm_path_eq {n : Nat} (s : S) (hn : 100 < n) : f_norm_path n s = some (okPath s) := by
 unfold f_norm_path okPath
 by_cases h0 : s.length = 0
 ·
  have : s = [] := List.length_eq_zero_iff.1 h0
  subst this
  rfl
 by_cases h1 : 60 < s.length
 ·
  rw [if_pos (by simp; omega)]
  have : decide (s.length ≤ 60) = false := by simpa using h1
  rw [this, Bool.false_and]
 ·
  rw [if_neg (by simp; exact ⟨fun e => h0 (by simp [e]), by omega⟩), f_strings_Split_eq (by omega) (by omega)]
  simp only [bsome]
  have hl := splitC_length 47 s
  have hc := cnt8_le (c := 47) (s := s)
  rw [f_slices_ContainsFunc_string_by_norm_path_1_eq (by omega) (by omega)]
  have : decide (s.length ≤ 60) = true := by simpa using h1
  simp [this]
theorem letG_iff (c : UInt8) : okB c = !((((((!((decide ((c.toNat : Int) ≥ 97)) && (decide ((c.toNat : Int) ≤ 122)))) && (!((decide ((c.toNat : Int) ≥ 65)) && (decide ((c.toNat : Int) ≤ 90))))) && (!((decide ((c.toNat : Int) ≥ 48)) && (decide ((c.toNat : Int) ≤ 57))))) && ((c.toNat : Int) != 45)) && ((c.toNat : Int) != 95)) && ((c.toNat : Int) != 46)) := by
 unfold okB letG
 have e1 : ∀ a b : Nat, Nat.ble a b = decide ((a : Int) ≤ (b : Int)) := fun a b => by
  rw [Bool.eq_iff_iff, Nat.ble_eq, decide_eq_true_eq]; omega
 have e2 : ∀ a b : Nat, Nat.beq a b = decide ((a : Int) = (b : Int)) := fun a b => by
  rw [Bool.eq_iff_iff, Nat.beq_eq, decide_eq_true_eq]; omega
 rw [Bool.eq_iff_iff]
 simp only [e1, e2]
 simp
theorem f_sidingref17_part_L8_eq (s : S) (hs : s.length < 1000000) : ∀ (m i : Nat), s.length < m + i → i ≤ s.length → f_sidingref17_part_L8 s m (i : Int) = some ((s.drop i).all okB)
 | 0, i, h1, h2 => by omega
 | m + 1, i, h1, h2 => by
  rw [f_sidingref17_part_L8]
  by_cases hi : i < s.length
  ·
   rw [if_pos (by simpa using hi), ix_nat hi]
   simp only [bsome, rng_succ (show i < 4611686018427387904 by omega)]
   rw [List.drop_eq_getElem_cons hi, List.all_cons, letG_iff s[i]]
   generalize ((((((!((decide ((s[i].toNat : Int) ≥ 97)) && (decide ((s[i].toNat : Int) ≤ 122)))) && (!((decide ((s[i].toNat : Int) ≥ 65)) && (decide ((s[i].toNat : Int) ≤ 90))))) && (!((decide ((s[i].toNat : Int) ≥ 48)) && (decide ((s[i].toNat : Int) ≤ 57))))) && ((s[i].toNat : Int) != 45)) && ((s[i].toNat : Int) != 95)) && ((s[i].toNat : Int) != 46)) = q
   cases q with
   | true => simp
   | false => simpa using f_sidingref17_part_L8_eq s hs m (i + 1) (by omega) (by omega)
  ·
   rw [if_neg (by simpa using hi)]
   have : i = s.length := by omega
   subst this
   simp
theorem f_sidingref17_part_eq {n : Nat} (s : S) (hs : s.length < 1000000) (hn : s.length < n) : f_sidingref17_part n s = some (okPart s) := by
 unfold f_sidingref17_part okPart
 have h := f_sidingref17_part_L8_eq s hs n 0 (by omega) (by omega)
 rw [show ((0 : Nat) : Int) = 0 from rfl, List.drop_zero] at h
 rw [h]
 have e : ((s.length : Int) == 0) = (s == []) := by
  rw [Bool.eq_iff_iff]; cases s <;> simp; omega
 rw [e]
 cases (((s == ([] : List UInt8)) || (s == ([46] : List UInt8))) || (s == ([46, 46] : List UInt8))) <;> simp
theorem f_sidingref17_Path_L9_eq (n : Nat) (s : S) (hs : s.length < 1000000) (hn : s.length < n) : ∀ (m a i : Nat), s.length < m + i → a ≤ i → i ≤ s.length → 47 ∉ (s.take i).drop a → f_sidingref17_Path_L9 n s m (a : Int) (i : Int) = some ((splitC 47 (s.drop a)).all okPart)
 | 0, a, i, h1, h2, h3, h4 => by omega
 | m + 1, a, i, h1, h2, h3, h4 => by
  rw [f_sidingref17_Path_L9]
  by_cases hi : i < s.length
  ·
   rw [if_pos (by simpa using hi), ix_nat hi]
   simp only [bsome, rng_succ (show i < 4611686018427387904 by omega)]
   by_cases hc : s[i] = 47
   ·
    rw [if_pos (by rw [hc]; rfl), cutI_nat h2 (by omega)]
    simp only [bsome]
    rw [f_sidingref17_part_eq _ (by simp; omega) (by simp; omega)]
    have hsp : s.drop a = (s.take i).drop a ++ 47 :: s.drop (i + 1) := by
     have e1 : s = s.take i ++ s[i] :: s.drop (i + 1) := by simp
     have e2 : s.drop a = (s.take i ++ s[i] :: s.drop (i + 1)).drop a := by rw [← e1]
     rw [e2, List.drop_append_of_le_length (by simp; omega), hc]
    rw [hsp, splitC_mid 47 _ _ h4, List.all_cons]
    cases e : okPart ((s.take i).drop a) with
    | false => simp
    | true =>
     simp only [bsome, Bool.not_true, Bool.false_eq_true, if_false, Bool.true_and]
     exact f_sidingref17_Path_L9_eq n s hs hn m (i + 1) (i + 1) (by omega) (Nat.le_refl _) (by omega) (by simp)
   ·
    rw [if_neg (by simp; exact fun e => hc (by rw [← UInt8.toNat_inj]; exact Int.ofNat.inj e))]
    refine f_sidingref17_Path_L9_eq n s hs hn m a (i + 1) (by omega) (by omega) (by omega) ?_
    rw [List.take_succ_eq_append_getElem hi, List.drop_append_of_le_length (by simp; omega)]
    simp [h4]
    exact fun e => hc e.symm
  ·
   rw [if_neg (by simpa using hi), cutI_end (by omega)]
   have : i = s.length := by omega
   subst this
   simp only [bsome]
   rw [f_sidingref17_part_eq _ (by simp; omega) (by simp; omega)]
   rw [List.take_length] at h4
   rw [splitC_none 47 _ h4]
   simp
theorem f_sidingref17_Path_eq {n : Nat} (s : S) (hn : 100 < n) : f_sidingref17_Path n s = some (okPath s) := by
 unfold f_sidingref17_Path okPath
 by_cases h1 : 60 < s.length
 ·
  rw [if_pos (by simp; omega)]
  have : decide (s.length ≤ 60) = false := by simpa using h1
  rw [this, Bool.false_and]
 ·
  rw [if_neg (by simp; omega)]
  have := f_sidingref17_Path_L9_eq n s (by omega) (by omega) n 0 0 (by omega) (Nat.le_refl _) (by omega) (by simp)
  rw [show ((0 : Nat) : Int) = 0 from rfl] at this
  rw [this]
  have : decide (s.length ≤ 60) = true := by simpa using h1
  simp [this]
theorem f_sidingref13_Parts_L7_eq (s : S) (hs : s.length < 1000000) : ∀ (m a i : Nat) (done : List S), s.length < m + i → a ≤ i → i ≤ s.length → 10 ∉ (s.take i).drop a → done.length + s.length - i < 1000000 →
  f_sidingref13_Parts_L7 s m (done ++ [[]]) (a : Int) (i : Int) = some (done ++ splitC 10 (s.drop a))
 | 0, a, i, done, h1, h2, h3, h4, h5 => by omega
 | m + 1, a, i, done, h1, h2, h3, h4, h5 => by
  rw [f_sidingref13_Parts_L7]
  have e1 : ((done ++ [([] : S)]).length : Int) - 1 = ((done.length : Nat) : Int) := by simp
  by_cases hi : i < s.length
  ·
   rw [if_pos (by simpa using hi), ix_nat hi]
   simp only [bsome, rng_succ (show i < 4611686018427387904 by omega)]
   by_cases hc : s[i] = 10
   ·
    rw [if_pos (by rw [hc]; rfl), e1, rng_nat (by omega), cutI_nat h2 (by omega)]
    simp only [bsome]
    rw [ix_nat (by simp), need_ok (by unfold lim; simp; omega)]
    simp only [bsome, Int.toNat_natCast]
    have hsp : s.drop a = (s.take i).drop a ++ 10 :: s.drop (i + 1) := by
     have e1 : s = s.take i ++ s[i] :: s.drop (i + 1) := by simp
     have e2 : s.drop a = (s.take i ++ s[i] :: s.drop (i + 1)).drop a := by rw [← e1]
     rw [e2, List.drop_append_of_le_length (by simp; omega), hc]
    rw [hsp, splitC_mid 10 _ _ h4, List.set_append_right _ _ (Nat.le_refl _), Nat.sub_self, List.set_cons_zero]
    rw [f_sidingref13_Parts_L7_eq s hs m (i + 1) (i + 1) (done ++ [(s.take i).drop a]) (by omega) (Nat.le_refl _) (by omega) (by simp) (by simp; omega)]
    simp
   ·
    rw [if_neg (by simp; exact fun e => hc (by rw [← UInt8.toNat_inj]; exact Int.ofNat.inj e))]
    refine f_sidingref13_Parts_L7_eq s hs m a (i + 1) done (by omega) (by omega) (by omega) ?_ (by omega)
    rw [List.take_succ_eq_append_getElem hi, List.drop_append_of_le_length (by simp; omega)]
    simp [h4]
    exact fun e => hc e.symm
  ·
   rw [if_neg (by simpa using hi), e1, rng_nat (by omega), cutI_end (by omega)]
   have : i = s.length := by omega
   subst this
   simp only [bsome]
   rw [ix_nat (by simp)]
   rw [List.take_length] at h4
   rw [splitC_none 10 _ h4]
   simp
theorem f_sidingref13_Parts_eq {n : Nat} (s : S) (hs : s.length < 500000) (hn : s.length < n) : f_sidingref13_Parts n s = some (splitC 10 s) := by
 unfold f_sidingref13_Parts
 have := f_sidingref13_Parts_L7_eq s (by omega) n 0 0 [] (by omega) (Nat.le_refl _) (by omega) (by simp) (by simp; omega)
 simpa using this
theorem less_eq (a b : S) : Op.bytesLess a b = decide (a < b) := bytesLess_eq a b
theorem s_irrefl (a : S) : ¬ a < a := List.lt_irrefl a
theorem s_trans {a b c : S} (h1 : a < b) (h2 : b < c) : a < c := List.lt_trans h1 h2
theorem s_tri : ∀ (a b : S), a < b ∨ a = b ∨ b < a
 | [], [] => .inr (.inl rfl)
 | [], b :: v => .inl (by simp)
 | a :: u, [] => .inr (.inr (by simp))
 | a :: u, b :: v => by
  simp only [List.cons_lt_cons_iff, List.cons.injEq]
  by_cases h : a < b
  ·
   exact .inl (.inl h)
  ·
   by_cases h' : b < a
   ·
    exact .inr (.inr (.inl h'))
   ·
    have he : a = b := by
     have e1 : ¬ a.toNat < b.toNat := fun e => h (UInt8.lt_iff_toNat_lt.2 e)
     have e2 : ¬ b.toNat < a.toNat := fun e => h' (UInt8.lt_iff_toNat_lt.2 e)
     exact UInt8.toNat_inj.1 (by omega)
    subst he
    rcases s_tri u v with h1 | h1 | h1
    ·
     exact .inl (.inr ⟨rfl, h1⟩)
    ·
     exact .inr (.inl ⟨rfl, h1⟩)
    ·
     exact .inr (.inr (.inr ⟨rfl, h1⟩))
theorem lmt_ok {α : Type} {l : List α} (h : l.length ≤ lim) : lmt l = some l := by unfold lmt; rw [if_pos h]
theorem ix_get {α : Type} {l : List α} {i : Nat} {x : α} (h : l[i]? = some x) : ix l (i : Int) = some x := by
 unfold ix
 rw [if_pos (by omega)]
 simpa using h
def oddLn (s : S) : Bool := decide ((10 : UInt8) ∈ s)
theorem f_lines_odd_1_eq {n : Nat} (s : S) : ((f_strings_IndexByte n s 10).bind fun r => some (decide (r ≥ 0))) = some (oddLn s) := by
 unfold f_strings_IndexByte f_stringslite_IndexByte oddLn
 rw [bsome, bsome]
 rw [show ((10 : Int).toNat.toUInt8) = (10 : UInt8) from rfl]
 rcases idx8_spec 10 s 0 with ⟨h1, h2⟩ | ⟨a, b, h1, h2, h3⟩
 ·
  rw [h2]; simp [h1]
 ·
  rw [h3]; subst h1; simp
theorem equal_L8 {p q : List S} (hpq : p.length = q.length) (hb : p.length < 1000000) : ∀ (m k fuel : Nat), p.length - k = m → k ≤ p.length → m < fuel → f_slices_Equal_string_L8 p q fuel (k : Int) = some (decide (p.drop k = q.drop k)) := by
 intro m
 induction m with
 | zero =>
  intro k fuel hm hk hf
  obtain ⟨fuel, rfl⟩ : ∃ k, fuel = k + 1 := ⟨fuel - 1, by omega⟩
  rw [f_slices_Equal_string_L8.eq_2, if_neg (by simp; omega), List.drop_of_length_le (by omega), List.drop_of_length_le (by omega)]
  simp
 | succ m ih =>
  intro k fuel hm hk hf
  obtain ⟨fuel, rfl⟩ : ∃ k, fuel = k + 1 := ⟨fuel - 1, by omega⟩
  have h1 : k < p.length := by omega
  have h2 : k < q.length := by omega
  rw [f_slices_Equal_string_L8.eq_2, if_pos (by simp; omega), ix_nat h1, bsome, ix_nat h2, bsome, List.drop_eq_getElem_cons h1, List.drop_eq_getElem_cons h2]
  by_cases h : p[k] = q[k]
  ·
   rw [if_neg (by simp [h]), rng_succ (by omega), bsome]
   refine Eq.trans (ih (k + 1) fuel (by omega) (by omega) (by omega)) ?_
   exact congrArg some (decide_eq_decide.2 (by rw [List.cons.injEq]; exact ⟨fun x => ⟨h, x⟩, fun x => x.2⟩))
  ·
   rw [if_pos (by simp [h])]
   exact congrArg some (decide_eq_false (by rw [List.cons.injEq]; exact fun x => h x.1)).symm
theorem f_slices_Equal_string_eq {n : Nat} {p q : List S} (hb : p.length < 1000000) (hn : p.length < n) : f_slices_Equal_string n p q = some (decide (p = q)) := by
 unfold f_slices_Equal_string
 by_cases h : p.length = q.length
 ·
  rw [if_neg (by simp [h])]
  have := equal_L8 h hb p.length 0 n rfl (by omega) hn
  simpa using this
 ·
  rw [if_pos (by simp; omega)]
  have : p ≠ q := fun e => h (by rw [e])
  simp [this]
def badLn (s : S) : Bool := decide (2000 < s.length) || oddLn s
theorem f_hunk_plain_1_eq {n : Nat} (s : S) : f_hunk_plain_1 n s = some (badLn s) := by
 have hodd := f_lines_odd_1_eq (n := n) s
 unfold f_hunk_plain_1 badLn
 by_cases h : 2000 < s.length
 ·
  rw [if_pos (by simp; omega)]; simp [h]
 ·
  rw [if_neg (by simp; omega), hodd]; simp [h]
theorem plainL5_eq (n : Nat) (l : List S) (hl : l.length < 1000000) : ∀ (m i : Nat), i ≤ l.length → l.length < m + i → ∃ r : Int, f_slices_IndexFunc_string_by_hunk_plain_1_L5 n l m (i : Int) = some r ∧ decide (r ≥ 0) = (l.drop i).any badLn := by
 intro m
 induction m with
 | zero => intro i h1 h2; omega
 | succ m ih =>
  intro i h1 h2
  rw [f_slices_IndexFunc_string_by_hunk_plain_1_L5.eq_2]
  by_cases hi : i < l.length
  ·
   rw [if_pos (by simpa using hi), ix_nat hi, bsome, f_hunk_plain_1_eq, bsome, List.drop_eq_getElem_cons hi, List.any_cons]
   cases e : badLn l[i] with
   | true => exact ⟨i, by simp, by simp⟩
   | false =>
    obtain ⟨r, h3, h4⟩ := ih (i + 1) (by omega) (by omega)
    refine ⟨r, ?_, by simpa using h4⟩
    rw [if_neg (by simp), rng_succ (by omega), bsome]
    exact h3
  ·
   rw [if_neg (by simpa using hi)]
   have : i = l.length := by omega
   subst this
   exact ⟨-1, rfl, by simp⟩
theorem hlim : 2000000 ≤ lim := by decide
theorem cut1 {α : Type} {x : α} {l : List α} : cutI (x :: l) 1 ((x :: l).length : Int) = some l := by
 have := cutI_end (l := x :: l) (a := 1) (by simp)
 simpa using this
theorem ixc {α : Type} {x : α} {l : List α} : ix (x :: l) 0 = some x := ix_zero (by simp)
def plainB (l : List S) : Bool := decide (l.length ≤ 60) && !(l.any badLn)
def validH (h : GHunk) : Bool := decide (0 ≤ h.at_) && (decide (h.at_ ≤ 60) && (plainB h.old_ && (plainB h.new_ && decide (0 < h.old_.length + h.new_.length))))
def okHs : Int → List GHunk → Bool
 | _, [] => true
 | e, h :: hs => validH h && (decide (e ≤ h.at_) && okHs (h.at_ + (h.old_.length : Int) + 1) hs)
def hckE (l : List GHunk) : Int := if 40 < l.length then 4 else if okHs 0 l = true then 0 else 8
def pvalid (p : GPatch) : Bool := okPath p.path_ && ((p.was_ || p.stays_) && (hckE p.hunks_ == 0 && ((p.was_ && p.stays_) || (match p.hunks_ with
 | [h] => h.at_ == 0 && ((p.was_ || h.old_.length == 0) && (p.stays_ || h.new_.length == 0))
 | _ => false))))
def dupB : List S → List S → Bool
 | _, [] => false
 | pre, p :: ps => pre.contains p || dupB (pre ++ [p]) ps
def nckE (l : List GPatch) : Int := if 24 < l.length then 4 else if dupB [] (l.map GPatch.path_) = true then 14 else if l.all pvalid = true then 0 else 8
theorem f_hunk_plain_eq {n : Nat} (hn : 100 < n) (l : List S) : f_hunk_plain n l = some (plainB l) := by
 unfold f_hunk_plain plainB
 by_cases h : l.length ≤ 60
 ·
  obtain ⟨r, h3, h4⟩ := plainL5_eq n l (by omega) n 0 (by omega) (by omega)
  rw [show ((0 : Nat) : Int) = 0 from rfl] at h3
  unfold f_slices_ContainsFunc_string_by_hunk_plain_1 f_slices_IndexFunc_string_by_hunk_plain_1
  rw [if_pos (by simp; omega), h3, bsome, bsome, h4, List.drop_zero]
  simp [h]
 ·
  rw [if_neg (by simp; omega)]; simp [h]
theorem f_hunk_valid_eq {n : Nat} (hn : 100 < n) (h : GHunk) : f_hunk_valid n h.at_ h.old_ h.new_ = some (validH h) := by
 unfold f_hunk_valid validH
 rw [f_hunk_plain_eq hn, bsome, f_hunk_plain_eq hn, bsome]
 by_cases h1 : 0 ≤ h.at_
 ·
  rw [if_pos (by simpa using h1)]
  by_cases h2 : h.at_ ≤ 60
  ·
   rw [if_pos (by simpa using h2)]
   cases e1 : plainB h.old_ with
   | false => simp
   | true =>
    cases e2 : plainB h.new_ with
    | false => simp
    | true =>
     have l1 : h.old_.length ≤ 60 := by unfold plainB at e1; simp at e1; exact e1.1
     have l2 : h.new_.length ≤ 60 := by unfold plainB at e2; simp at e2; exact e2.1
     rw [if_pos rfl, if_pos rfl, rng_ok (by omega) (by omega), bsome]
     simp [h1, h2]
     omega
  ·
   rw [if_neg (by simpa using h2)]; simp [h2]
 ·
  rw [if_neg (by simpa using h1)]; simp [h1]
theorem validH_at {h : GHunk} (e : validH h = true) : 0 ≤ h.at_ ∧ h.at_ ≤ 60 ∧ h.old_.length ≤ 60 ∧ h.new_.length ≤ 60 := by
 unfold validH plainB at e
 simp at e
 exact ⟨e.1, e.2.1, e.2.2.1.1, e.2.2.2.1.1⟩
theorem hcheck9 {n : Nat} (hn : 100 < n) {l : List GHunk} (hl : l.length ≤ 40) : ∀ (m k : Nat) (e : Int) (fuel : Nat), l.length - k = m → k ≤ l.length → m < fuel → f_hunk_Check_L9 n l fuel e (k : Int) = some (if okHs e (l.drop k) = true then 0 else 8) := by
 intro m
 induction m with
 | zero =>
  intro k e fuel hm hk hf
  obtain ⟨fuel, rfl⟩ : ∃ k, fuel = k + 1 := ⟨fuel - 1, by omega⟩
  rw [f_hunk_Check_L9.eq_2, if_neg (by simp; omega), List.drop_of_length_le (by omega)]
  rfl
 | succ m ih =>
  intro k e fuel hm hk hf
  obtain ⟨fuel, rfl⟩ : ∃ k, fuel = k + 1 := ⟨fuel - 1, by omega⟩
  have h1 : k < l.length := by omega
  rw [f_hunk_Check_L9.eq_2, if_pos (by simp; omega), ix_nat h1, bsome, f_hunk_valid_eq hn, bsome, List.drop_eq_getElem_cons h1, okHs]
  cases e1 : validH l[k] with
  | false => simp
  | true =>
   obtain ⟨v1, v2, v3, v4⟩ := validH_at e1
   rw [if_neg (by simp)]
   by_cases h2 : l[k].at_ < e
   ·
    rw [if_pos (by simpa using h2)]
    have : ¬ e ≤ l[k].at_ := by omega
    simp [this]
   ·
    rw [if_neg (by simpa using h2), rng_ok (by omega) (by omega), bsome, rng_ok (by omega) (by omega), bsome, rng_succ (by omega), bsome]
    refine Eq.trans (ih (k + 1) _ fuel (by omega) (by omega) (by omega)) ?_
    have : e ≤ l[k].at_ := by omega
    simp [this]
theorem f_hunk_Check_eq {n : Nat} (hn : 100 < n) (l : List GHunk) : f_hunk_Check n l = some (hckE l) := by
 unfold f_hunk_Check hckE
 by_cases h : 40 < l.length
 ·
  rw [if_pos (by simp; omega), if_pos h]
 ·
  rw [if_neg (by simp; omega), if_neg h]
  exact hcheck9 hn (by omega) l.length 0 0 n rfl (by omega) (by omega)
theorem len0 {α : Type} (l : List α) : ((l.length : Int) == 0) = (l.length == 0) := by
 rw [Bool.eq_iff_iff]; simp
theorem f_norm_valid_eq {n : Nat} (hn : 100 < n) (p : GPatch) : f_norm_valid n p.path_ p.was_ p.stays_ p.hunks_ = some (pvalid p) := by
 have hJ3 : f_norm_valid_J3 p.was_ p.stays_ p.hunks_ = some (match p.hunks_ with
   | [h] => h.at_ == 0 && ((p.was_ || h.old_.length == 0) && (p.stays_ || h.new_.length == 0))
   | _ => false) := by
  unfold f_norm_valid_J3
  cases hh : p.hunks_ with
  | nil => simp
  | cons h t =>
   cases t with
   | cons h2 t2 =>
    have : (((h :: h2 :: t2).length : Int) != 1) = true := by simp; omega
    rw [if_pos this]
   | nil =>
    rw [if_neg (by simp), ixc, bsome]
    by_cases ha : h.at_ = 0
    ·
     rw [if_neg (by simp [ha])]
     rw [len0, len0]
     show _ = some (h.at_ == 0 && ((p.was_ || h.old_.length == 0) && (p.stays_ || h.new_.length == 0)))
     rw [ha]
     generalize (h.old_.length == 0) = b1
     generalize (h.new_.length == 0) = b2
     cases p.was_ <;> cases p.stays_ <;> cases b1 <;> cases b2 <;> simp
    ·
     rw [if_pos (by simp [ha])]; simp [ha]
 unfold f_norm_valid pvalid
 rw [f_norm_path_eq _ hn, bsome, f_hunk_Check_eq hn, bsome]
 unfold f_norm_valid_J2
 rw [hJ3]
 cases okPath p.path_ with
 | false => simp
 | true =>
  rw [if_neg (by simp)]
  by_cases hc : hckE p.hunks_ = 0
  ·
   rw [hc]
   cases p.was_ <;> cases p.stays_ <;> simp
  ·
   have hc' : (hckE p.hunks_ == 0) = false := by simpa using hc
   cases p.was_ <;> cases p.stays_ <;> simp [hc]
theorem f_norm_Check_2_eq {n : Nat} (hn : 100 < n) (p : GPatch) : f_norm_Check_2 n p.path_ p.was_ p.stays_ p.hunks_ = some (!pvalid p) := by
 unfold f_norm_Check_2
 rw [f_norm_valid_eq hn, bsome]
theorem check2_L5 {n : Nat} (hn : 100 < n) (l : List GPatch) (hl : l.length < 1000000) : ∀ (m i : Nat), i ≤ l.length → l.length < m + i → ∃ r : Int, f_slices_IndexFunc_Patch_by_norm_Check_2_L5 n l m (i : Int) = some r ∧ decide (r ≥ 0) = !((l.drop i).all pvalid) := by
 intro m
 induction m with
 | zero => intro i h1 h2; omega
 | succ m ih =>
  intro i h1 h2
  rw [f_slices_IndexFunc_Patch_by_norm_Check_2_L5.eq_2]
  by_cases hi : i < l.length
  ·
   rw [if_pos (by simpa using hi), ix_nat hi, bsome, f_norm_Check_2_eq hn, bsome, List.drop_eq_getElem_cons hi, List.all_cons]
   cases e : pvalid l[i] with
   | false => exact ⟨i, by simp, by simp⟩
   | true =>
    obtain ⟨r, h3, h4⟩ := ih (i + 1) (by omega) (by omega)
    refine ⟨r, ?_, by simpa using h4⟩
    rw [if_neg (by simp), rng_succ (by omega), bsome]
    exact h3
  ·
   rw [if_neg (by simpa using hi)]
   have : i = l.length := by omega
   subst this
   exact ⟨-1, rfl, by simp⟩
theorem check1_L5 {n : Nat} (l : List GPatch) (hl : l.length < 1000000) (q : GPatch) : ∀ (m i : Nat), i ≤ l.length → l.length < m + i → ∃ r : Int, f_slices_IndexFunc_Patch_by_norm_Check_1_L5 n l q.path_ q.was_ q.stays_ q.hunks_ m (i : Int) = some r ∧ decide (r ≥ 0) = ((l.drop i).map GPatch.path_).contains q.path_ := by
 intro m
 induction m with
 | zero => intro i h1 h2; omega
 | succ m ih =>
  intro i h1 h2
  rw [f_slices_IndexFunc_Patch_by_norm_Check_1_L5.eq_2]
  by_cases hi : i < l.length
  ·
   rw [if_pos (by simpa using hi), ix_nat hi, bsome, f_norm_Check_1, bsome, List.drop_eq_getElem_cons hi, List.map_cons, List.contains_cons]
   cases e : (l[i].path_ == q.path_) with
   | true =>
    have e' : (q.path_ == l[i].path_) = true := by simpa using (by simpa using e : l[i].path_ = q.path_).symm
    exact ⟨i, by simp, by rw [e']; simp⟩
   | false =>
    have e' : (q.path_ == l[i].path_) = false := by
     have : l[i].path_ ≠ q.path_ := by simpa using e
     simpa using this.symm
    obtain ⟨r, h3, h4⟩ := ih (i + 1) (by omega) (by omega)
    refine ⟨r, ?_, by rw [e', Bool.false_or]; exact h4⟩
    rw [if_neg (by simp), rng_succ (by omega), bsome]
    exact h3
  ·
   rw [if_neg (by simpa using hi)]
   have : i = l.length := by omega
   subst this
   exact ⟨-1, rfl, by simp⟩
theorem f_norm_Check_eq {n : Nat} (hn : 100 < n) (l : List GPatch) : f_norm_Check n l = some (nckE l) := by
 unfold f_norm_Check nckE
 by_cases h : 24 < l.length
 ·
  rw [if_pos (by simp; omega), if_pos h]
 rw [if_neg (by simp; omega), if_neg h]
 have key : ∀ (m k fuel : Nat), l.length - k = m → k ≤ l.length → m < fuel → f_norm_Check_L8 n l fuel (k : Int) = some (if dupB ((l.take k).map GPatch.path_) ((l.drop k).map GPatch.path_) = true then 14 else if l.all pvalid = true then 0 else 8) := by
  intro m
  induction m with
  | zero =>
   intro k fuel hm hk hf
   obtain ⟨fuel, rfl⟩ : ∃ k, fuel = k + 1 := ⟨fuel - 1, by omega⟩
   obtain ⟨r, h3, h4⟩ := check2_L5 hn l (by omega) n 0 (by omega) (by omega)
   rw [show ((0 : Nat) : Int) = 0 from rfl] at h3
   rw [f_norm_Check_L8.eq_2, if_neg (by simp; omega), List.drop_of_length_le (by omega)]
   unfold f_slices_ContainsFunc_Patch_by_norm_Check_2 f_slices_IndexFunc_Patch_by_norm_Check_2
   rw [h3, bsome, bsome, h4, List.drop_zero]
   cases l.all pvalid <;> simp [dupB]
  | succ m ih =>
   intro k fuel hm hk hf
   obtain ⟨fuel, rfl⟩ : ∃ k, fuel = k + 1 := ⟨fuel - 1, by omega⟩
   have h1 : k < l.length := by omega
   obtain ⟨r, h3, h4⟩ := check1_L5 (n := n) (l.take k) (by simp; omega) l[k] n 0 (by omega) (by simp; omega)
   rw [show ((0 : Nat) : Int) = 0 from rfl] at h3
   rw [f_norm_Check_L8.eq_2, if_pos (by simp; omega), ix_nat h1, bsome, cutI_front (by omega), bsome]
   unfold f_slices_ContainsFunc_Patch_by_norm_Check_1 f_slices_IndexFunc_Patch_by_norm_Check_1
   rw [h3, bsome, bsome, h4, List.drop_zero, List.drop_eq_getElem_cons h1, List.map_cons, dupB]
   cases e : ((l.take k).map GPatch.path_).contains l[k].path_ with
   | true => simp
   | false =>
    rw [if_neg (by simp), rng_succ (by omega), bsome]
    refine Eq.trans (ih (k + 1) fuel (by omega) (by omega) (by omega)) ?_
    rw [List.take_succ_eq_append_getElem h1, List.map_append]
    rfl
 have := key l.length 0 n rfl (by omega) (by omega)
 simpa using this
theorem dupB_false : ∀ (ps pre : List S), dupB pre ps = false ↔ ps.Nodup ∧ ∀ p ∈ ps, p ∉ pre
 | [], pre => by simp [dupB]
 | p :: ps, pre => by
  rw [dupB, Bool.or_eq_false_iff, dupB_false ps, List.nodup_cons]
  simp only [List.contains_eq_mem, decide_eq_false_iff_not, List.mem_append, List.mem_cons, List.not_mem_nil, or_false]
  constructor
  ·
   rintro ⟨h1, h2, h3⟩
   refine ⟨⟨fun h => (h3 p h) (.inr rfl), h2⟩, fun q hq => ?_⟩
   rcases hq with rfl | hq
   ·
    exact h1
   ·
    exact fun h => h3 q hq (.inl h)
  ·
   rintro ⟨⟨h1, h2⟩, h3⟩
   refine ⟨h3 p (.inl rfl), h2, fun q hq h => ?_⟩
   rcases h with h | rfl
   ·
    exact h3 q (.inr hq) h
   ·
    exact h1 hq
theorem nckE_zero {l : List GPatch} (h1 : l.length ≤ 24) (h2 : (l.map GPatch.path_).Nodup) (h3 : ∀ p ∈ l, pvalid p = true) : nckE l = 0 := by
 unfold nckE
 rw [if_neg (by omega), if_neg, if_pos]
 ·
  rw [List.all_eq_true]; exact h3
 ·
  rw [(dupB_false _ []).2 ⟨h2, fun p _ h => by cases h⟩]; simp
end Go.Zv.G

namespace Go.Zv.G
open Go Go.Zv Go.Proofs
set_option maxRecDepth 100000
attribute [local simp high] bsome
def cutF : List S → List S → List S × List S
 | x :: a, y :: b => if x = y then cutF a b else (x :: a, y :: b)
 | a, b => (a, b)
def cutB (a b : List S) : List S × List S := ((cutF a.reverse b.reverse).1.reverse, (cutF a.reverse b.reverse).2.reverse)
def trimL (a b : List S) : List S × List S := cutB (cutF a b).1 (cutF a b).2
theorem cutF_nil_l (b : List S) : cutF [] b = ([], b) := by cases b <;> rfl
theorem cutF_nil_r (a : List S) : cutF a [] = (a, []) := by cases a <;> rfl
theorem cutF_cons (x y : S) (a b : List S) : cutF (x :: a) (y :: b) = if x = y then cutF a b else (x :: a, y :: b) := rfl
theorem cutF_len : ∀ (a b : List S), (cutF a b).1.length ≤ a.length ∧ (cutF a b).2.length ≤ b.length
 | [], b => by rw [cutF_nil_l]; simp
 | x :: a, [] => by rw [cutF_nil_r]; simp
 | x :: a, y :: b => by
  rw [cutF_cons]
  have := cutF_len a b
  split
  ·
   simp only [List.length_cons]; omega
  ·
   simp
theorem cutB_len (a b : List S) : (cutB a b).1.length ≤ a.length ∧ (cutB a b).2.length ≤ b.length := by
 have := cutF_len a.reverse b.reverse
 simpa [cutB] using this
theorem trimL_len (a b : List S) : (trimL a b).1.length ≤ a.length ∧ (trimL a b).2.length ≤ b.length := by
 have h1 := cutF_len a b
 have h2 := cutB_len (cutF a b).1 (cutF a b).2
 unfold trimL
 omega
theorem cutB_nil_l (b : List S) : cutB [] b = ([], b) := by simp [cutB, cutF_nil_l]
theorem cutB_nil_r (a : List S) : cutB a [] = (a, []) := by simp [cutB, cutF_nil_r]
theorem cutB_snoc (x y : S) (a b : List S) : cutB (a ++ [x]) (b ++ [y]) = if x = y then cutB a b else (a ++ [x], b ++ [y]) := by
 unfold cutB
 rw [List.reverse_append, List.reverse_append]
 show ((cutF (x :: a.reverse) (y :: b.reverse)).1.reverse, (cutF (x :: a.reverse) (y :: b.reverse)).2.reverse) = _
 rw [cutF_cons]
 split <;> simp
theorem snoc_of {a : List S} (h : a ≠ []) : ∃ a' x, a = a' ++ [x] := ⟨a.dropLast, a.getLast h, (List.dropLast_concat_getLast h).symm⟩
theorem ix_snoc {a : List S} {x : S} {i : Int} (h : i = (a.length : Int)) : ix (a ++ [x]) i = some x := by
 subst h
 exact ix_get (by simp)
theorem cut_snoc {a : List S} {x : S} {i : Int} (h : i = (a.length : Int)) : cutI (a ++ [x]) 0 i = some a := by
 subst h
 rw [cutI_front (by simp)]
 simp
theorem trim27 : ∀ (m : Nat) (a b : List S) (fuel : Nat), a.length = m → m < fuel → a.length < 1000000 → b.length < 1000000 → f_norm_trim_L27 fuel a b = some (cutB a b) := by
 intro m
 induction m with
 | zero =>
  intro a b fuel hm hf ha hb
  obtain ⟨fuel, rfl⟩ : ∃ k, fuel = k + 1 := ⟨fuel - 1, by omega⟩
  obtain rfl := List.eq_nil_of_length_eq_zero hm
  have := hlim
  rw [f_norm_trim_L27.eq_2, if_neg (by simp), lmt_ok (by simp), bsome, lmt_ok (by omega), bsome, cutB_nil_l]
 | succ m ih =>
  intro a b fuel hm hf ha hb
  obtain ⟨fuel, rfl⟩ : ∃ k, fuel = k + 1 := ⟨fuel - 1, by omega⟩
  have hl := hlim
  by_cases hb0 : b = []
  ·
   subst hb0
   rw [f_norm_trim_L27.eq_2, if_neg (by simp), lmt_ok (by omega), bsome, lmt_ok (by simp), bsome, cutB_nil_r]
  obtain ⟨b, y, rfl⟩ := snoc_of hb0
  obtain ⟨a, x, rfl⟩ := snoc_of (a := a) (by intro e; rw [e] at hm; simp at hm)
  simp only [List.length_append, List.length_singleton] at hm ha hb
  have ea : (((a ++ [x]).length : Nat) : Int) - 1 = (a.length : Int) := by simp
  have eb : (((b ++ [y]).length : Nat) : Int) - 1 = (b.length : Int) := by simp
  rw [f_norm_trim_L27.eq_2, if_pos (by simp), ea, eb, rng_ok (by omega) (by omega), bsome, ix_snoc rfl, bsome, rng_ok (by omega) (by omega), bsome, ix_snoc rfl, bsome, cutB_snoc]
  by_cases h : x = y
  ·
   rw [if_pos (by simp [h]), bsome, cut_snoc rfl, bsome, bsome, cut_snoc rfl, bsome, if_pos h]
   exact ih a b fuel (by omega) (by omega) (by omega) (by omega)
  ·
   rw [if_neg (by simp [h]), lmt_ok (by simp; omega), bsome, lmt_ok (by simp; omega), bsome, if_neg h]
theorem trim76 (a b : List S) (fuel : Nat) (hf : 0 < fuel) (h : a = [] ∨ b = []) (ha : a.length < 1000000) (hb : b.length < 1000000) : f_norm_trim_L76 fuel a b = some (cutB a b) := by
 obtain ⟨fuel, rfl⟩ : ∃ k, fuel = k + 1 := ⟨fuel - 1, by omega⟩
 have hl := hlim
 have e : cutB a b = (a, b) := by
  rcases h with rfl | rfl
  ·
   exact cutB_nil_l b
  ·
   exact cutB_nil_r a
 rw [f_norm_trim_L76.eq_2, if_neg (by rcases h with rfl | rfl <;> simp), lmt_ok (by omega), bsome, lmt_ok (by omega), bsome, e]
theorem f_norm_trim_eq {n : Nat} {a b : List S} (ha : a.length < 1000000) (hb : b.length < 1000000) (hn : a.length < n) : f_norm_trim n a b = some (trimL a b) := by
 unfold f_norm_trim trimL
 have key : ∀ (m : Nat) (a b : List S) (fuel : Nat), a.length = m → m < fuel → a.length < 1000000 → b.length < 1000000 → a.length < n → f_norm_trim_L4 n fuel a b = some (cutB (cutF a b).1 (cutF a b).2) := by
  intro m
  induction m with
  | zero =>
   intro a b fuel hm hf ha hb hn
   obtain ⟨fuel, rfl⟩ : ∃ k, fuel = k + 1 := ⟨fuel - 1, by omega⟩
   obtain rfl := List.eq_nil_of_length_eq_zero hm
   rw [f_norm_trim_L4.eq_2, if_neg (by simp), cutF_nil_l]
   exact trim76 [] b n (by omega) (.inl rfl) (by simp) hb
  | succ m ih =>
   intro a b fuel hm hf ha hb hn
   obtain ⟨fuel, rfl⟩ : ∃ k, fuel = k + 1 := ⟨fuel - 1, by omega⟩
   cases a with
   | nil => simp at hm
   | cons x a =>
    cases b with
    | nil =>
     rw [f_norm_trim_L4.eq_2, if_neg (by simp), cutF_nil_r]
     exact trim76 _ [] n (by omega) (.inr rfl) ha (by simp)
    | cons y b =>
     simp only [List.length_cons] at hm ha hb hn
     have c1 : cutI (x :: a) 1 ((x :: a).length : Int) = some a := cut1
     have c2 : cutI (y :: b) 1 ((y :: b).length : Int) = some b := cut1
     rw [f_norm_trim_L4.eq_2, if_pos (by simp), ixc, bsome, ixc, bsome, cutF_cons]
     by_cases h : x = y
     ·
      rw [if_pos (by simp [h]), c1, bsome, c2, bsome, if_pos h]
      exact ih a b fuel (by omega) (by omega) (by omega) (by omega) (by omega)
     ·
      rw [if_neg (by simp [h]), if_neg h]
      exact trim27 (a.length + 1) (x :: a) (y :: b) n (by simp) (by omega) (by simp; omega) (by simp; omega)
 exact key a.length a b n rfl hn ha hb hn
def normHs : Int → List GHunk → List GHunk
 | _, [] => []
 | at_, h :: hs => if 0 < (trimL h.old_ h.new_).1.length + (trimL h.old_ h.new_).2.length then ⟨at_, (trimL h.old_ h.new_).1, (trimL h.old_ h.new_).2⟩ :: normHs (at_ + ((trimL h.old_ h.new_).1.length : Int) + 1) hs else normHs at_ hs
def normP (p : GPatch) : GPatch := ⟨p.path_, p.was_, p.stays_, normHs 0 p.hunks_⟩
def normPs (l : List GPatch) : List GPatch := (l.map normP).filter fun p => decide (p.hunks_ ≠ [])
def normG (l : List GPatch) : List GPatch := sortP (normPs l)
def Small (p : GPatch) : Prop := p.hunks_.length ≤ 1000 ∧ ∀ h ∈ p.hunks_, h.old_.length ≤ 1000 ∧ h.new_.length ≤ 1000
theorem norm23 {n : Nat} (hn : 1000 < n) (p : GPatch) (hp : Small p) (v7 : List GPatch) (v8 : Int) (rec : List GPatch → Int → Option (List GPatch)) : ∀ (m k : Nat) (acc : List GHunk) (at_ : Int) (fuel : Nat), p.hunks_.length - k = m → k ≤ p.hunks_.length → m < fuel → acc.length + m ≤ 2000 → 0 ≤ at_ → at_ ≤ 2000 * (k : Int) →
  f_norm_norm_L23 n v7 v8 p rec fuel acc at_ (k : Int) = if acc ++ normHs at_ (p.hunks_.drop k) ≠ [] then (need (v7.length + 1 ≤ lim)).bind fun _ => (rng (v8 + 1)).bind fun i => rec (v7 ++ [⟨p.path_, p.was_, p.stays_, acc ++ normHs at_ (p.hunks_.drop k)⟩]) i else (rng (v8 + 1)).bind fun i => rec v7 i := by
 intro m
 induction m with
 | zero =>
  intro k acc at_ fuel hm hk hf ha h1 h2
  obtain ⟨fuel, rfl⟩ : ∃ k, fuel = k + 1 := ⟨fuel - 1, by omega⟩
  rw [f_norm_norm_L23.eq_2, if_neg (by simp; omega), List.drop_of_length_le (by omega), normHs, List.append_nil]
  cases acc with
  | nil => rw [if_neg (by simp), if_neg (by simp)]
  | cons x acc => rw [if_pos (by simp), if_pos (by simp)]
 | succ m ih =>
  intro k acc at_ fuel hm hk hf ha h1 h2
  obtain ⟨fuel, rfl⟩ : ∃ k, fuel = k + 1 := ⟨fuel - 1, by omega⟩
  have hk1 : k < p.hunks_.length := by omega
  obtain ⟨s1, s2⟩ := hp.2 _ (List.getElem_mem hk1)
  have s0 := hp.1
  have hl := hlim
  obtain ⟨t1, t2⟩ := trimL_len p.hunks_[k].old_ p.hunks_[k].new_
  rw [f_norm_norm_L23.eq_2, if_pos (by simp; omega), ix_nat hk1, bsome, f_norm_trim_eq (by omega) (by omega) (by omega), bsome, rng_ok (by omega) (by omega), bsome, List.drop_eq_getElem_cons hk1, normHs]
  by_cases hc : 0 < (trimL p.hunks_[k].old_ p.hunks_[k].new_).1.length + (trimL p.hunks_[k].old_ p.hunks_[k].new_).2.length
  ·
   rw [if_pos (by rw [decide_eq_true_eq]; omega), if_pos hc, need_ok (by omega), bsome, rng_ok (by omega) (by omega), bsome, rng_ok (by omega) (by omega), bsome, rng_succ (by omega), bsome]
   refine Eq.trans (ih (k + 1) _ _ fuel (by omega) (by omega) (by omega) (by simp; omega) (by omega) (by omega)) ?_
   rw [List.append_assoc, List.singleton_append, Int.add_assoc]
  ·
   rw [if_neg (by rw [decide_eq_true_eq]; omega), if_neg hc, rng_succ (by omega), bsome]
   exact ih (k + 1) acc at_ fuel (by omega) (by omega) (by omega) (by omega) h1 (by omega)
theorem nodupG_iff : ∀ l : List S, nodupG l = true ↔ l.Nodup
 | [] => by simp [nodupG]
 | x :: xs => by simp [nodupG, nodupG_iff xs]
theorem normPs_nodup {l : List GPatch} (h : (l.map GPatch.path_).Nodup) : ((normPs l).map GPatch.path_).Nodup := by
 have e : (l.map GPatch.path_) = ((l.map normP).map GPatch.path_) := by rw [List.map_map]; rfl
 rw [e] at h
 exact h.sublist ((List.filter_sublist).map _)
theorem f_norm_norm_eq {n : Nat} (hn : 2000 < n) {l : List GPatch} (hl : l.length ≤ 100) (hs : ∀ p ∈ l, Small p) (hd : (l.map GPatch.path_).Nodup) : f_norm_norm n l = some (normG l) := by
 have hlm := hlim
 unfold f_norm_norm
 have key : ∀ (m k : Nat) (acc : List GPatch) (fuel : Nat), l.length - k = m → k ≤ l.length → m + 1001 < fuel → acc.length + m ≤ 1000 → f_norm_norm_L6 n l fuel acc (k : Int) = sortG (acc ++ normPs (l.drop k)) := by
  intro m
  induction m with
  | zero =>
   intro k acc fuel hm hk hf ha
   obtain ⟨fuel, rfl⟩ : ∃ k, fuel = k + 1 := ⟨fuel - 1, by omega⟩
   rw [f_norm_norm_L6.eq_2, if_neg (by simp; omega), List.drop_of_length_le (by omega)]
   show _ = sortG (acc ++ [])
   rw [List.append_nil]
   cases sortG acc <;> rfl
  | succ m ih =>
   intro k acc fuel hm hk hf ha
   obtain ⟨fuel, rfl⟩ : ∃ k, fuel = k + 1 := ⟨fuel - 1, by omega⟩
   have h1 : k < l.length := by omega
   have hp := hs _ (List.getElem_mem h1)
   have hp0 := hp.1
   have h23 := norm23 (n := n) (by omega) l[k] hp acc (k : Int) (fun a b => f_norm_norm_L6 n l fuel a b) l[k].hunks_.length 0 [] 0 fuel (by omega) (by omega) (by omega) (by simp; omega) (by omega) (by omega)
   rw [f_norm_norm_L6.eq_2, if_pos (by simp; omega), ix_nat h1, bsome]
   refine Eq.trans h23 ?_
   rw [List.drop_zero, List.nil_append, rng_succ (by omega), bsome, need_ok (by omega), bsome, List.drop_eq_getElem_cons h1]
   have e : normPs (l[k] :: l.drop (k + 1)) = if normHs 0 l[k].hunks_ ≠ [] then normP l[k] :: normPs (l.drop (k + 1)) else normPs (l.drop (k + 1)) := by
    unfold normPs
    rw [List.map_cons, List.filter_cons]
    show (if decide (normHs 0 l[k].hunks_ ≠ []) = true then _ else _) = _
    by_cases h : normHs 0 l[k].hunks_ ≠ [] <;> simp [h]
   rw [e]
   by_cases h : normHs 0 l[k].hunks_ ≠ []
   ·
    rw [if_pos h, if_pos h]
    refine Eq.trans (ih (k + 1) _ fuel (by omega) (by omega) (by omega) (by simp; omega)) ?_
    rw [List.append_assoc, List.singleton_append]
    rfl
   ·
    rw [if_neg h, if_neg h]
    exact ih (k + 1) acc fuel (by omega) (by omega) (by omega) (by omega)
 have := key l.length 0 [] n rfl (by omega) (by omega) (by simp; omega)
 refine Eq.trans this ?_
 rw [List.nil_append, List.drop_zero]
 have hle : (normPs l).length ≤ l.length := by
  unfold normPs
  refine Nat.le_trans (List.length_filter_le _ _) (by simp)
 exact if_pos ⟨by omega, (nodupG_iff _).2 (normPs_nodup hd)⟩
theorem small_of {p : GPatch} (h : pvalid p = true) : Small p := by
 unfold pvalid at h
 simp only [Bool.and_eq_true, beq_iff_eq] at h
 obtain ⟨h1, h2⟩ := show p.hunks_.length ≤ 40 ∧ okHs 0 p.hunks_ = true by
  have := h.2.2.1
  unfold hckE at this
  split at this
  ·
   cases this
  ·
   split at this
   ·
    rename_i a b; exact ⟨by omega, b⟩
   ·
    cases this
 refine ⟨by omega, ?_⟩
 have key : ∀ (l : List GHunk) (e : Int), okHs e l = true → ∀ x ∈ l, x.old_.length ≤ 1000 ∧ x.new_.length ≤ 1000 := by
  intro l
  induction l with
  | nil => intro e _ x hx; cases hx
  | cons y l ih =>
   intro e h x hx
   rw [okHs, Bool.and_eq_true, Bool.and_eq_true] at h
   rcases List.mem_cons.1 hx with rfl | hx
   ·
    obtain ⟨_, _, q3, q4⟩ := validH_at h.1
    exact ⟨by omega, by omega⟩
   ·
    exact ih _ h.2.2 x hx
 exact key _ _ h2
theorem nckE_zero' {l : List GPatch} (h : nckE l = 0) : l.length ≤ 24 ∧ (l.map GPatch.path_).Nodup ∧ ∀ p ∈ l, pvalid p = true := by
 unfold nckE at h
 split at h
 ·
  cases h
 ·
  rename_i h1
  split at h
  ·
   cases h
  ·
   rename_i h2
   split at h
   ·
    rename_i h3
    have hd : dupB [] (l.map GPatch.path_) = false := by simpa using h2
    have key : ∀ (ps pre : List S), dupB pre ps = false → ps.Nodup ∧ ∀ p ∈ ps, p ∉ pre := by
     intro ps
     induction ps with
     | nil => intro pre _; simp
     | cons p ps ih =>
      intro pre h
      rw [dupB, Bool.or_eq_false_iff] at h
      obtain ⟨i1, i2⟩ := ih _ h.2
      have hp : p ∉ pre := by simpa using h.1
      refine ⟨List.nodup_cons.2 ⟨fun hm => i2 p hm (by simp), i1⟩, fun q hq => ?_⟩
      rcases List.mem_cons.1 hq with rfl | hq
      ·
       exact hp
      ·
       exact fun hm => i2 q hq (by simp [hm])
    exact ⟨by omega, (key _ _ hd).1, List.all_eq_true.1 h3⟩
   ·
    cases h
end Go.Zv.G
namespace Go.Zv.G
open Go Go.Zv Go.Proofs
set_option maxRecDepth 100000
attribute [local simp high] bsome
theorem refSame_L8 {p q : List S} (hpq : p.length = q.length) (hb : p.length < 1000000) : ∀ (m k fuel : Nat), p.length - k = m → k ≤ p.length → m < fuel → f_sidingref13_Same_L8 p q fuel (k : Int) = some (decide (p.drop k = q.drop k)) := by
 intro m
 induction m with
 | zero =>
  intro k fuel hm hk hf
  obtain ⟨fuel, rfl⟩ : ∃ k, fuel = k + 1 := ⟨fuel - 1, by omega⟩
  rw [f_sidingref13_Same_L8.eq_2, if_neg (by simp; omega), List.drop_of_length_le (by omega), List.drop_of_length_le (by omega)]
  simp
 | succ m ih =>
  intro k fuel hm hk hf
  obtain ⟨fuel, rfl⟩ : ∃ k, fuel = k + 1 := ⟨fuel - 1, by omega⟩
  have h1 : k < p.length := by omega
  have h2 : k < q.length := by omega
  rw [f_sidingref13_Same_L8.eq_2, if_pos (by simp; omega), ix_nat h1, bsome, ix_nat h2, bsome, List.drop_eq_getElem_cons h1, List.drop_eq_getElem_cons h2]
  by_cases h : p[k] = q[k]
  ·
   rw [if_neg (by simp [h]), rng_succ (by omega), bsome]
   refine Eq.trans (ih (k + 1) fuel (by omega) (by omega) (by omega)) ?_
   exact congrArg some (decide_eq_decide.2 (by rw [List.cons.injEq]; exact ⟨fun x => ⟨h, x⟩, fun x => x.2⟩))
  ·
   rw [if_pos (by simp [h])]
   exact congrArg some (decide_eq_false (by rw [List.cons.injEq]; exact fun x => h x.1)).symm
theorem f_sidingref13_Same_eq {n : Nat} {p q : List S} (hb : p.length < 1000000) (hn : p.length < n) : f_sidingref13_Same n p q = some (decide (p = q)) := by
 unfold f_sidingref13_Same
 by_cases h : p.length = q.length
 ·
  rw [if_neg (by simp [h])]
  have := refSame_L8 h hb p.length 0 n rfl (by omega) hn
  simpa using this
 ·
  rw [if_pos (by simp; omega)]
  have : p ≠ q := fun e => h (by rw [e])
  simp [this]
theorem hunk_eta {a b : GHunk} : a = b ↔ a.at_ = b.at_ ∧ a.old_ = b.old_ ∧ a.new_ = b.new_ := by
 cases a; cases b; simp
theorem patch_eta {a b : GPatch} : a = b ↔ a.path_ = b.path_ ∧ a.was_ = b.was_ ∧ a.stays_ = b.stays_ ∧ a.hunks_ = b.hunks_ := by
 cases a; cases b; simp
instance : DecidableEq GHunk := fun _ _ => decidable_of_iff' _ hunk_eta
instance : DecidableEq GPatch := fun _ _ => decidable_of_iff' _ patch_eta
def HFit (n : Nat) (l : List GHunk) : Prop := l.length < 1000000 ∧ l.length < n ∧ ∀ h ∈ l, h.old_.length < 1000000 ∧ h.new_.length < 1000000 ∧ h.old_.length < n ∧ h.new_.length < n
theorem f_norm_same_1_1_eq {n : Nat} (a b : GHunk) (h : a.old_.length < 1000000 ∧ a.new_.length < 1000000 ∧ a.old_.length < n ∧ a.new_.length < n) : f_norm_same_1_1 n a.at_ a.old_ a.new_ b.at_ b.old_ b.new_ = some (decide (a = b)) := by
 unfold f_norm_same_1_1
 rw [f_slices_Equal_string_eq h.1 h.2.2.1, bsome, f_slices_Equal_string_eq h.2.1 h.2.2.2, bsome]
 have e := hunk_eta (a := a) (b := b)
 by_cases h1 : a.at_ = b.at_ <;> by_cases h2 : a.old_ = b.old_ <;> by_cases h3 : a.new_ = b.new_ <;> simp [e, h1, h2, h3]
theorem eqF_Hunk {n : Nat} {p q : List GHunk} (hp : HFit n p) : f_slices_EqualFunc_Hunk_by_norm_same_1_1 n p q = some (decide (p = q)) := by
 unfold f_slices_EqualFunc_Hunk_by_norm_same_1_1
 by_cases hl : p.length = q.length
 case neg =>
  rw [if_pos (by simp; omega)]
  have : p ≠ q := fun e => hl (by rw [e])
  simp [this]
 rw [if_neg (by simp [hl])]
 obtain ⟨g1, g2, g3⟩ := hp
 have key : ∀ (m k fuel : Nat), p.length - k = m → k ≤ p.length → m < fuel → f_slices_EqualFunc_Hunk_by_norm_same_1_1_L8 n p q fuel (k : Int) = some (decide (p.drop k = q.drop k)) := by
  intro m
  induction m with
  | zero =>
   intro k fuel hm hk hf
   obtain ⟨fuel, rfl⟩ : ∃ k, fuel = k + 1 := ⟨fuel - 1, by omega⟩
   rw [f_slices_EqualFunc_Hunk_by_norm_same_1_1_L8.eq_2, if_neg (by simp; omega), List.drop_of_length_le (by omega), List.drop_of_length_le (by omega)]
   simp
  | succ m ih =>
   intro k fuel hm hk hf
   obtain ⟨fuel, rfl⟩ : ∃ k, fuel = k + 1 := ⟨fuel - 1, by omega⟩
   have h1 : k < p.length := by omega
   have h2 : k < q.length := by omega
   rw [f_slices_EqualFunc_Hunk_by_norm_same_1_1_L8.eq_2, if_pos (by simp; omega), ix_nat h1, bsome, ix_nat h2, bsome, f_norm_same_1_1_eq _ _ (g3 _ (List.getElem_mem h1)), bsome, List.drop_eq_getElem_cons h1, List.drop_eq_getElem_cons h2]
   by_cases h : p[k] = q[k]
   ·
    rw [if_neg (by simp [h]), rng_succ (by omega), bsome]
    refine Eq.trans (ih (k + 1) fuel (by omega) (by omega) (by omega)) ?_
    exact congrArg some (decide_eq_decide.2 (by rw [List.cons.injEq]; exact ⟨fun x => ⟨h, x⟩, fun x => x.2⟩))
   ·
    rw [if_pos (by simp [h])]
    exact congrArg some (decide_eq_false (by rw [List.cons.injEq]; exact fun x => h x.1)).symm
 have := key p.length 0 n rfl (by omega) g2
 simpa using this
theorem f_norm_same_1_eq {n : Nat} (a b : GPatch) (h : HFit n a.hunks_) : f_norm_same_1 n a.path_ a.was_ a.stays_ a.hunks_ b.path_ b.was_ b.stays_ b.hunks_ = some (decide (a = b)) := by
 unfold f_norm_same_1
 rw [eqF_Hunk h, bsome]
 have e := patch_eta (a := a) (b := b)
 by_cases h1 : a.path_ = b.path_ <;> by_cases h2 : a.was_ = b.was_ <;> by_cases h3 : a.stays_ = b.stays_ <;> by_cases h4 : a.hunks_ = b.hunks_ <;> simp [e, h1, h2, h3, h4]
theorem f_norm_same_eq {n : Nat} {p q : List GPatch} (hp : p.length < 1000000) (hn : p.length < n) (hx : ∀ x ∈ p, HFit n x.hunks_) : f_norm_same n p q = some (decide (p = q)) := by
 unfold f_norm_same f_slices_EqualFunc_Patch_by_norm_same_1
 by_cases hl : p.length = q.length
 case neg =>
  rw [if_pos (by simp; omega), bsome]
  have : p ≠ q := fun e => hl (by rw [e])
  simp [this]
 rw [if_neg (by simp [hl])]
 have key : ∀ (m k fuel : Nat), p.length - k = m → k ≤ p.length → m < fuel → f_slices_EqualFunc_Patch_by_norm_same_1_L8 n p q fuel (k : Int) = some (decide (p.drop k = q.drop k)) := by
  intro m
  induction m with
  | zero =>
   intro k fuel hm hk hf
   obtain ⟨fuel, rfl⟩ : ∃ k, fuel = k + 1 := ⟨fuel - 1, by omega⟩
   rw [f_slices_EqualFunc_Patch_by_norm_same_1_L8.eq_2, if_neg (by simp; omega), List.drop_of_length_le (by omega), List.drop_of_length_le (by omega)]
   simp
  | succ m ih =>
   intro k fuel hm hk hf
   obtain ⟨fuel, rfl⟩ : ∃ k, fuel = k + 1 := ⟨fuel - 1, by omega⟩
   have h1 : k < p.length := by omega
   have h2 : k < q.length := by omega
   rw [f_slices_EqualFunc_Patch_by_norm_same_1_L8.eq_2, if_pos (by simp; omega), ix_nat h1, bsome, ix_nat h2, bsome, f_norm_same_1_eq _ _ (hx _ (List.getElem_mem h1)), bsome, List.drop_eq_getElem_cons h1, List.drop_eq_getElem_cons h2]
   by_cases h : p[k] = q[k]
   ·
    rw [if_neg (by simp [h]), rng_succ (by omega), bsome]
    refine Eq.trans (ih (k + 1) fuel (by omega) (by omega) (by omega)) ?_
    exact congrArg some (decide_eq_decide.2 (by rw [List.cons.injEq]; exact ⟨fun x => ⟨h, x⟩, fun x => x.2⟩))
   ·
    rw [if_pos (by simp [h])]
    exact congrArg some (decide_eq_false (by rw [List.cons.injEq]; exact fun x => h x.1)).symm
 have := key p.length 0 n rfl (by omega) hn
 rw [show ((0 : Nat) : Int) = 0 from rfl] at this
 rw [this, bsome, List.drop_zero, List.drop_zero]
theorem ref15_Same_eq {n : Nat} {p q : List GHunk} (hp : HFit n p) : f_sidingref15_Same n p q = some (decide (p = q)) := by
 unfold f_sidingref15_Same
 by_cases hl : p.length = q.length
 case neg =>
  rw [if_pos (by simp; omega)]
  have : p ≠ q := fun e => hl (by rw [e])
  simp [this]
 rw [if_neg (by simp [hl])]
 obtain ⟨g1, g2, g3⟩ := hp
 have key : ∀ (m k fuel : Nat), p.length - k = m → k ≤ p.length → m < fuel → f_sidingref15_Same_L8 n p q fuel (k : Int) = some (decide (p.drop k = q.drop k)) := by
  intro m
  induction m with
  | zero =>
   intro k fuel hm hk hf
   obtain ⟨fuel, rfl⟩ : ∃ k, fuel = k + 1 := ⟨fuel - 1, by omega⟩
   rw [f_sidingref15_Same_L8.eq_2, if_neg (by simp; omega), List.drop_of_length_le (by omega), List.drop_of_length_le (by omega)]
   simp
  | succ m ih =>
   intro k fuel hm hk hf
   obtain ⟨fuel, rfl⟩ : ∃ k, fuel = k + 1 := ⟨fuel - 1, by omega⟩
   have h1 : k < p.length := by omega
   have h2 : k < q.length := by omega
   obtain ⟨b1, b2, b3, b4⟩ := g3 _ (List.getElem_mem h1)
   rw [f_sidingref15_Same_L8.eq_2, if_pos (by simp; omega), ix_nat h1, bsome, ix_nat h2, bsome, f_sidingref13_Same_eq b1 b3, bsome, f_sidingref13_Same_eq b2 b4, bsome, List.drop_eq_getElem_cons h1, List.drop_eq_getElem_cons h2]
   have hno : ∀ {c : Bool}, p[k] ≠ q[k] → some false = some (decide (p[k] :: p.drop (k + 1) = q[k] :: q.drop (k + 1))) := fun h => congrArg some (decide_eq_false (by rw [List.cons.injEq]; exact fun x => h x.1)).symm
   by_cases e1 : p[k].at_ = q[k].at_
   ·
    rw [if_neg (by simp [e1])]
    by_cases e2 : p[k].old_ = q[k].old_
    ·
     rw [if_neg (by simp [e2])]
     by_cases e3 : p[k].new_ = q[k].new_
     ·
      rw [if_neg (by simp [e3]), rng_succ (by omega), bsome]
      refine Eq.trans (ih (k + 1) fuel (by omega) (by omega) (by omega)) ?_
      have h := hunk_eta.2 ⟨e1, e2, e3⟩
      exact congrArg some (decide_eq_decide.2 (by rw [List.cons.injEq]; exact ⟨fun x => ⟨h, x⟩, fun x => x.2⟩))
     ·
      rw [if_pos (by simp [e3])]; exact hno (c := true) fun h => e3 (by rw [h])
    ·
     rw [if_pos (by simp [e2])]; exact hno (c := true) fun h => e2 (by rw [h])
   ·
    rw [if_pos (by simp [e1])]; exact hno (c := true) fun h => e1 (by rw [h])
 have := key p.length 0 n rfl (by omega) g2
 simpa using this
end Go.Zv.G
namespace Go.Zv.G
open Go Go.Zv Go.Proofs
set_option maxRecDepth 100000
attribute [local simp high] bsome
theorem f_sidingref17_Equal_eq {n : Nat} {p q : List GPatch} (hp : p.length < 1000000) (hn : p.length < n) (hx : ∀ x ∈ p, HFit n x.hunks_) : f_sidingref17_Equal n p q = some (decide (p = q)) := by
 unfold f_sidingref17_Equal
 by_cases hl : p.length = q.length
 case neg =>
  rw [if_pos (by simp; omega)]
  have : p ≠ q := fun e => hl (by rw [e])
  simp [this]
 rw [if_neg (by simp [hl])]
 have key : ∀ (m k fuel : Nat), p.length - k = m → k ≤ p.length → m < fuel → f_sidingref17_Equal_L8 n p q fuel (k : Int) = some (decide (p.drop k = q.drop k)) := by
  intro m
  induction m with
  | zero =>
   intro k fuel hm hk hf
   obtain ⟨fuel, rfl⟩ : ∃ k, fuel = k + 1 := ⟨fuel - 1, by omega⟩
   rw [f_sidingref17_Equal_L8.eq_2, if_neg (by simp; omega), List.drop_of_length_le (by omega), List.drop_of_length_le (by omega)]
   simp
  | succ m ih =>
   intro k fuel hm hk hf
   obtain ⟨fuel, rfl⟩ : ∃ k, fuel = k + 1 := ⟨fuel - 1, by omega⟩
   have h1 : k < p.length := by omega
   have h2 : k < q.length := by omega
   rw [f_sidingref17_Equal_L8.eq_2, if_pos (by simp; omega), ix_nat h1, bsome, ix_nat h2, bsome, ref15_Same_eq (hx _ (List.getElem_mem h1)), bsome, List.drop_eq_getElem_cons h1, List.drop_eq_getElem_cons h2]
   have hno : p[k] ≠ q[k] → some false = some (decide (p[k] :: p.drop (k + 1) = q[k] :: q.drop (k + 1))) := fun h => congrArg some (decide_eq_false (by rw [List.cons.injEq]; exact fun x => h x.1)).symm
   by_cases e1 : p[k].path_ = q[k].path_ ∧ p[k].was_ = q[k].was_ ∧ p[k].stays_ = q[k].stays_
   ·
    rw [if_neg (by simp [e1.1, e1.2.1, e1.2.2])]
    by_cases e2 : p[k].hunks_ = q[k].hunks_
    ·
     rw [if_neg (by simp [e2]), rng_succ (by omega), bsome]
     refine Eq.trans (ih (k + 1) fuel (by omega) (by omega) (by omega)) ?_
     have h := patch_eta.2 ⟨e1.1, e1.2.1, e1.2.2, e2⟩
     exact congrArg some (decide_eq_decide.2 (by rw [List.cons.injEq]; exact ⟨fun x => ⟨h, x⟩, fun x => x.2⟩))
    ·
     rw [if_pos (by simp [e2])]; exact hno fun h => e2 (by rw [h])
   ·
    rw [if_pos]
    ·
     exact hno fun h => e1 (by rw [h]; exact ⟨rfl, rfl, rfl⟩)
    ·
     simp only [Bool.or_eq_true, Bool.not_eq_true', beq_eq_false_iff_ne]
     by_cases c1 : p[k].path_ = q[k].path_
     ·
      by_cases c2 : p[k].was_ = q[k].was_
      ·
       by_cases c3 : p[k].stays_ = q[k].stays_
       ·
        exact absurd ⟨c1, c2, c3⟩ e1
       ·
        exact .inr c3
      ·
       exact .inl (.inr c2)
     ·
      exact .inl (.inl c1)
 have := key p.length 0 n rfl (by omega) hn
 simpa using this
theorem hfit_of {n : Nat} (hn : 2000 < n) {p : GPatch} (h : Small p) : HFit n p.hunks_ :=
 ⟨by have := h.1; omega, by have := h.1; omega, fun x hx => by
  obtain ⟨a, b⟩ := h.2 x hx
  exact ⟨by omega, by omega, by omega, by omega⟩⟩
theorem normHs_small : ∀ (l : List GHunk) (e : Int), (∀ h ∈ l, h.old_.length ≤ 1000 ∧ h.new_.length ≤ 1000) → (normHs e l).length ≤ l.length ∧ ∀ h ∈ normHs e l, h.old_.length ≤ 1000 ∧ h.new_.length ≤ 1000
 | [], e, _ => by simp [normHs]
 | h :: l, e, hx => by
  obtain ⟨a, b⟩ := hx h (by simp)
  obtain ⟨t1, t2⟩ := trimL_len h.old_ h.new_
  rw [normHs]
  split
  ·
   obtain ⟨i1, i2⟩ := normHs_small l (e + ((trimL h.old_ h.new_).1.length : Int) + 1) fun y hy => hx y (by simp [hy])
   refine ⟨by simp only [List.length_cons]; omega, fun y hy => ?_⟩
   rcases List.mem_cons.1 hy with rfl | hy
   ·
    exact ⟨by show (trimL h.old_ h.new_).1.length ≤ 1000; omega, by show (trimL h.old_ h.new_).2.length ≤ 1000; omega⟩
   ·
    exact i2 y hy
  ·
   obtain ⟨i1, i2⟩ := normHs_small l e fun y hy => hx y (by simp [hy])
   exact ⟨by simp only [List.length_cons]; omega, i2⟩
theorem normP_small {p : GPatch} (h : Small p) : Small (normP p) := by
 obtain ⟨a, b⟩ := normHs_small p.hunks_ 0 h.2
 exact ⟨Nat.le_trans a h.1, b⟩
theorem insG_mem (r : GPatch) : ∀ {l : List GPatch} {x : GPatch}, x ∈ insG r l ↔ x = r ∨ x ∈ l
 | [], x => by simp [insG]
 | y :: l, x => by
  unfold insG
  split
  ·
   simp only [List.mem_cons, insG_mem r (l := l)]; exact ⟨fun h => h.elim (fun h => .inr (.inl h)) fun h => h.elim .inl fun h => .inr (.inr h), fun h => h.elim (fun h => .inr (.inl h)) fun h => h.elim .inl fun h => .inr (.inr h)⟩
  ·
   simp
theorem insG_len (r : GPatch) : ∀ l : List GPatch, (insG r l).length = l.length + 1
 | [] => rfl
 | y :: l => by
  unfold insG
  split
  ·
   simp [insG_len r l]
  ·
   simp
theorem sortP_mem : ∀ {l : List GPatch} {x : GPatch}, x ∈ sortP l ↔ x ∈ l
 | [], x => by simp [sortP]
 | y :: l, x => by rw [sortP, insG_mem, sortP_mem, List.mem_cons]
theorem sortP_len : ∀ l : List GPatch, (sortP l).length = l.length
 | [] => rfl
 | y :: l => by rw [sortP, insG_len, sortP_len, List.length_cons]
theorem normG_len (l : List GPatch) : (normG l).length ≤ l.length := by
 unfold normG normPs
 rw [sortP_len]
 exact Nat.le_trans (List.length_filter_le _ _) (by simp)
theorem normG_small {l : List GPatch} (h : ∀ p ∈ l, Small p) : ∀ p ∈ normG l, Small p := by
 intro p hp
 unfold normG normPs at hp
 have := (List.mem_filter.1 (sortP_mem.1 hp)).1
 obtain ⟨q, hq, rfl⟩ := List.mem_map.1 this
 exact normP_small (h q hq)
theorem f_norm_Same_ok {n : Nat} (hn : 2000 < n) {a b : List GPatch} (ha : nckE a = 0) (hb : nckE b = 0) : f_norm_Same n a b = some (decide (normG a = normG b), 0) := by
 obtain ⟨a1, a2, a3⟩ := nckE_zero' ha
 obtain ⟨b1, b2, b3⟩ := nckE_zero' hb
 have hsa : ∀ p ∈ a, Small p := fun p hp => small_of (a3 p hp)
 have hsb : ∀ p ∈ b, Small p := fun p hp => small_of (b3 p hp)
 have hl := normG_len a
 unfold f_norm_Same
 rw [f_norm_Check_eq (by omega), ha, bsome, if_neg (by simp), f_norm_Check_eq (by omega), hb, bsome, if_neg (by simp), f_norm_norm_eq hn (by omega) hsa a2, bsome, f_norm_norm_eq hn (by omega) hsb b2, bsome,
  f_norm_same_eq (by omega) (by omega) (fun p hp => hfit_of hn (normG_small hsa p hp)), bsome]
end Go.Zv.G
namespace Go.Zv.G
open Go Go.Zv Go.Proofs
set_option maxRecDepth 100000
attribute [local simp high] bsome
theorem feed_L5 {n : Nat} (hn : 3000 < n) (l : List S) (hl : l.length < 1000000) (hx : ∀ s ∈ l, s.length ≤ 2000) : ∀ (m i fuel : Nat), l.length - i = m → i ≤ l.length → m < fuel → f_sidingref13_Feed_L5 n l fuel (i : Int) = some ((l.drop i).any oddLn) := by
 intro m
 induction m with
 | zero =>
  intro i fuel hm hi hf
  obtain ⟨fuel, rfl⟩ : ∃ k, fuel = k + 1 := ⟨fuel - 1, by omega⟩
  rw [f_sidingref13_Feed_L5.eq_2, if_neg (by simp; omega), List.drop_of_length_le (by omega)]
  rfl
 | succ m ih =>
  intro i fuel hm hi hf
  obtain ⟨fuel, rfl⟩ : ∃ k, fuel = k + 1 := ⟨fuel - 1, by omega⟩
  have h1 : i < l.length := by omega
  have h2 := hx l[i] (List.getElem_mem h1)
  rw [f_sidingref13_Feed_L5.eq_2, if_pos (by simp; omega), ix_nat h1, bsome, f_sidingref13_Parts_eq _ (by omega) (by omega), bsome, List.drop_eq_getElem_cons h1, List.any_cons, splitC_length]
  by_cases h : (10 : UInt8) ∈ l[i]
  ·
   have := (cnt8_pos (c := 10) (s := l[i])).2 h
   rw [if_pos (by simp; omega)]
   simp [oddLn, h]
  ·
   have : ¬ 0 < cnt8 10 l[i] := fun e => h (cnt8_pos.1 e)
   rw [if_neg (by simp; omega), rng_succ (by omega), bsome]
   refine Eq.trans (ih (i + 1) fuel (by omega) (by omega) (by omega)) ?_
   simp [oddLn, h]
theorem f_sidingref13_Feed_eq {n : Nat} (hn : 3000 < n) (l : List S) (hl : l.length < 1000000) (hl' : l.length < n) (hx : ∀ s ∈ l, s.length ≤ 2000) : f_sidingref13_Feed n l = some (l.any oddLn) := by
 unfold f_sidingref13_Feed
 exact feed_L5 hn l hl hx l.length 0 n rfl (by omega) hl'
theorem plain_L5r {n : Nat} (hn : 3000 < n) (l : List S) (hl : l.length < 1000000) (hl' : l.length < n) : ∀ (m i fuel : Nat), l.length - i = m → i ≤ l.length → m < fuel → (∀ s ∈ l.take i, s.length ≤ 2000) → f_sidingref15_Plain_L5 n l fuel (i : Int) = some (plainB l) := by
 intro m
 induction m with
 | zero =>
  intro i fuel hm hi hf hx
  obtain ⟨fuel, rfl⟩ : ∃ k, fuel = k + 1 := ⟨fuel - 1, by omega⟩
  have e : i = l.length := by omega
  subst e
  rw [List.take_length] at hx
  rw [f_sidingref15_Plain_L5.eq_2, if_neg (by simp)]
  have hbad : l.any badLn = l.any oddLn := by
   rw [Bool.eq_iff_iff, List.any_eq_true, List.any_eq_true]
   refine ⟨fun ⟨s, h1, h2⟩ => ⟨s, h1, ?_⟩, fun ⟨s, h1, h2⟩ => ⟨s, h1, by unfold badLn; simp [h2]⟩⟩
   have := hx s h1
   unfold badLn at h2
   simpa [show ¬ 2000 < s.length by omega] using h2
  unfold plainB
  rw [hbad]
  by_cases h : l.length ≤ 60
  ·
   rw [if_pos (by simp; omega), f_sidingref13_Feed_eq hn l hl hl' hx, bsome]
   simp [h]
  ·
   rw [if_neg (by simp; omega)]
   simp [h]
 | succ m ih =>
  intro i fuel hm hi hf hx
  obtain ⟨fuel, rfl⟩ : ∃ k, fuel = k + 1 := ⟨fuel - 1, by omega⟩
  have h1 : i < l.length := by omega
  rw [f_sidingref15_Plain_L5.eq_2, if_pos (by simp; omega), ix_nat h1, bsome]
  by_cases h : 2000 < l[i].length
  ·
   rw [if_pos (by simp; omega)]
   have : l.any badLn = true := by
    rw [List.any_eq_true]
    exact ⟨l[i], List.getElem_mem h1, by unfold badLn; simp [h]⟩
   unfold plainB
   rw [this]; simp
  ·
   rw [if_neg (by simp; omega), rng_succ (by omega), bsome]
   refine ih (i + 1) fuel (by omega) (by omega) (by omega) fun s hs => ?_
   rw [List.take_succ_eq_append_getElem h1, List.mem_append, List.mem_singleton] at hs
   rcases hs with hs | rfl
   ·
    exact hx s hs
   ·
    omega
theorem f_sidingref15_Plain_eq {n : Nat} (hn : 3000 < n) (l : List S) (hl : l.length < 1000000) (hl' : l.length < n) : f_sidingref15_Plain n l = some (plainB l) := by
 unfold f_sidingref15_Plain
 exact plain_L5r hn l hl hl' l.length 0 n rfl (by omega) hl' (fun s hs => by simp at hs)
def Fits (n : Nat) (h : GHunk) : Prop := h.old_.length < 1000000 ∧ h.new_.length < 1000000 ∧ h.old_.length < n ∧ h.new_.length < n
theorem f_sidingref15_Valid_eq {n : Nat} (hn : 3000 < n) (h : GHunk) (hf : Fits n h) : f_sidingref15_Valid n h.at_ h.old_ h.new_ = some (validH h) := by
 unfold f_sidingref15_Valid validH
 rw [f_sidingref15_Plain_eq hn _ hf.1 hf.2.2.1, bsome, f_sidingref15_Plain_eq hn _ hf.2.1 hf.2.2.2, bsome]
 by_cases h1 : 0 ≤ h.at_
 ·
  rw [if_pos (by simpa using h1)]
  by_cases h2 : h.at_ ≤ 60
  ·
   rw [if_pos (by simpa using h2)]
   cases plainB h.old_ with
   | false => simp
   | true =>
    cases plainB h.new_ with
    | false => simp
    | true =>
     rw [if_pos rfl, if_pos rfl]
     by_cases h3 : 0 < h.old_.length
     ·
      rw [if_pos (by simp; omega)]
      have : decide (0 < h.old_.length + h.new_.length) = true := decide_eq_true (by omega)
      rw [this]; simp [h1, h2]
     ·
      rw [if_neg (by rw [decide_eq_true_eq]; omega)]
      have : decide ((h.new_.length : Int) > 0) = decide (0 < h.old_.length + h.new_.length) := decide_eq_decide.2 (by omega)
      rw [this]; simp [h1, h2]
  ·
   rw [if_neg (by simpa using h2)]; simp [h2]
 ·
  rw [if_neg (by simpa using h1)]; simp [h1]
theorem hcheck8 {n : Nat} (hn : 3000 < n) {l : List GHunk} (hl : l.length ≤ 40) (hx : ∀ h ∈ l, Fits n h) : ∀ (m k : Nat) (e : Int) (fuel : Nat), l.length - k = m → k ≤ l.length → m < fuel → (k = 0 ∧ e = 0 ∨ ∃ h, 0 < k ∧ l[k - 1]? = some h ∧ validH h = true ∧ e = h.at_ + (h.old_.length : Int) + 1) → f_sidingref15_Check_L8 n l fuel (k : Int) = some (if okHs e (l.drop k) = true then 0 else 8) := by
 intro m
 induction m with
 | zero =>
  intro k e fuel hm hk hf _
  obtain ⟨fuel, rfl⟩ : ∃ k, fuel = k + 1 := ⟨fuel - 1, by omega⟩
  rw [f_sidingref15_Check_L8.eq_2, if_neg (by simp; omega), List.drop_of_length_le (by omega)]
  rfl
 | succ m ih =>
  intro k e fuel hm hk hf he
  obtain ⟨fuel, rfl⟩ : ∃ k, fuel = k + 1 := ⟨fuel - 1, by omega⟩
  have h1 : k < l.length := by omega
  rw [f_sidingref15_Check_L8.eq_2, if_pos (by simp; omega), ix_nat h1, bsome, f_sidingref15_Valid_eq hn _ (hx _ (List.getElem_mem h1)), bsome, List.drop_eq_getElem_cons h1, okHs]
  cases e1 : validH l[k] with
  | false => simp
  | true =>
   obtain ⟨v1, v2, v3, v4⟩ := validH_at e1
   have hrec := ih (k + 1) (l[k].at_ + (l[k].old_.length : Int) + 1) fuel (by clear he; omega) (by clear he; omega) (by clear he; omega) (.inr ⟨l[k], by clear he; omega, by simp [h1], e1, rfl⟩)
   rw [if_neg (by simp)]
   rcases he with ⟨rfl, rfl⟩ | ⟨h, h0, h2, h3, rfl⟩
   ·
    rw [if_neg (by simp), rng_succ (by omega), bsome]
    refine Eq.trans hrec ?_
    simp [v1]
   ·
    obtain ⟨w1, w2, w3, w4⟩ := validH_at h3
    have hix : ix l ((k : Int) - 1) = some h := by
     rw [show ((k : Int) - 1) = ((k - 1 : Nat) : Int) by omega]
     exact ix_get h2
    rw [if_pos (by simp; omega), rng_ok (by omega) (by omega), bsome, hix, bsome, bsome, hix, bsome, rng_ok (by omega) (by omega), bsome]
    by_cases hc : l[k].at_ ≤ h.at_ + (h.old_.length : Int)
    ·
     rw [if_pos (by simpa using hc)]
     have : ¬ (h.at_ + (h.old_.length : Int) + 1 ≤ l[k].at_) := by omega
     simp [this]
    ·
     rw [if_neg (by simpa using hc), rng_succ (by omega), bsome]
     refine Eq.trans hrec ?_
     have : h.at_ + (h.old_.length : Int) + 1 ≤ l[k].at_ := by omega
     simp [this]
theorem f_sidingref15_Check_eq {n : Nat} (hn : 3000 < n) (l : List GHunk) (hx : ∀ h ∈ l, Fits n h) : f_sidingref15_Check n l = some (hckE l) := by
 unfold f_sidingref15_Check hckE
 by_cases h : 40 < l.length
 ·
  rw [if_pos (by simp; omega), if_pos h]
 ·
  rw [if_neg (by simp; omega), if_neg h]
  exact hcheck8 hn (by omega) hx l.length 0 0 n rfl (by omega) (by omega) (.inl ⟨rfl, rfl⟩)
theorem f_sidingref17_Valid_eq {n : Nat} (hn : 3000 < n) (p : GPatch) (hx : ∀ h ∈ p.hunks_, Fits n h) : f_sidingref17_Valid n p.path_ p.was_ p.stays_ p.hunks_ = some (pvalid p) := by
 unfold f_sidingref17_Valid pvalid
 rw [f_sidingref17_Path_eq _ (by omega), bsome, f_sidingref15_Check_eq hn _ hx, bsome]
 unfold f_sidingref17_Valid_J13 f_sidingref17_Valid_J14
 cases okPath p.path_ with
 | false => simp
 | true =>
  rw [if_neg (by simp)]
  by_cases hc : hckE p.hunks_ = 0
  ·
   rw [hc, if_neg (by simp)]
   cases hh : p.hunks_ with
   | nil => cases p.was_ <;> cases p.stays_ <;> simp
   | cons h t =>
    cases t with
    | cons h2 t2 =>
     have : (((h :: h2 :: t2).length : Int) != 1) = true := by simp; omega
     rw [this]
     cases p.was_ <;> cases p.stays_ <;> simp
    | nil =>
     rw [ixc]
     simp only [bsome]
     rw [len0, len0]
     by_cases ha : h.at_ = 0
     ·
      rw [ha]
      generalize (h.old_.length == 0) = b1
      generalize (h.new_.length == 0) = b2
      cases p.was_ <;> cases p.stays_ <;> cases b1 <;> cases b2 <;> simp
     ·
      cases p.was_ <;> cases p.stays_ <;> simp [ha]
  ·
   have hc' : (hckE p.hunks_ != 0) = true := by simpa using hc
   rw [hc', if_pos rfl]
   simp [hc]
theorem f_sidingref17_Check_eq {n : Nat} (hn : 3000 < n) (l : List GPatch) (hx : ∀ p ∈ l, ∀ h ∈ p.hunks_, Fits n h) : f_sidingref17_Check n l = some (nckE l) := by
 unfold f_sidingref17_Check nckE
 by_cases h : 24 < l.length
 ·
  rw [if_pos (by simp; omega), if_pos h]
 rw [if_neg (by simp; omega), if_neg h]
 have k40 : ∀ (m k fuel : Nat), l.length - k = m → k ≤ l.length → m < fuel → f_sidingref17_Check_L40 n l fuel (k : Int) = some (if (l.drop k).all pvalid = true then 0 else 8) := by
  intro m
  induction m with
  | zero =>
   intro k fuel hm hk hf
   obtain ⟨fuel, rfl⟩ : ∃ k, fuel = k + 1 := ⟨fuel - 1, by omega⟩
   rw [f_sidingref17_Check_L40.eq_2, if_neg (by simp; omega), List.drop_of_length_le (by omega)]
   rfl
  | succ m ih =>
   intro k fuel hm hk hf
   obtain ⟨fuel, rfl⟩ : ∃ k, fuel = k + 1 := ⟨fuel - 1, by omega⟩
   have h1 : k < l.length := by omega
   rw [f_sidingref17_Check_L40.eq_2, if_pos (by simp; omega), ix_nat h1, bsome, f_sidingref17_Valid_eq hn _ (hx _ (List.getElem_mem h1)), bsome, List.drop_eq_getElem_cons h1, List.all_cons]
   cases pvalid l[k] with
   | false => simp
   | true =>
    rw [if_neg (by simp), rng_succ (by omega), bsome]
    exact ih (k + 1) fuel (by omega) (by omega) (by omega)
 have k17 : ∀ (k : Nat) (h1 : k < l.length) (rec : Int → Option Int) (m j fuel : Nat), k - j = m → j ≤ k → m < fuel → f_sidingref17_Check_L17 l (k : Int) rec fuel (j : Int) = if (((l.take k).drop j).map GPatch.path_).contains l[k].path_ = true then some 14 else rec ((k + 1 : Nat) : Int) := by
  intro k h1 rec m
  induction m with
  | zero =>
   intro j fuel hm hj hf
   obtain ⟨fuel, rfl⟩ : ∃ k, fuel = k + 1 := ⟨fuel - 1, by omega⟩
   rw [f_sidingref17_Check_L17.eq_2, if_neg (by simp; omega), rng_succ (by omega), bsome, List.drop_of_length_le (by simp; omega)]
   simp
  | succ m ih =>
   intro j fuel hm hj hf
   obtain ⟨fuel, rfl⟩ : ∃ k, fuel = k + 1 := ⟨fuel - 1, by omega⟩
   have h2 : j < (l.take k).length := by simp; omega
   have h3 : (l.take k)[j] = l[j]'(by omega) := by simp
   rw [f_sidingref17_Check_L17.eq_2, if_pos (by simp; omega), ix_nat h1, bsome, ix_nat (show j < l.length by omega), bsome, List.drop_eq_getElem_cons h2, List.map_cons, List.contains_cons, h3]
   cases e : (l[k].path_ == l[j].path_) with
   | true => simp
   | false =>
    rw [if_neg (by simp), rng_succ (by omega), bsome]
    refine Eq.trans (ih (j + 1) fuel (by omega) (by omega) (by omega)) ?_
    rw [Bool.false_or]
 have key : ∀ (m k fuel : Nat), l.length - k = m → k ≤ l.length → m + 30 < fuel → f_sidingref17_Check_L8 n l fuel (k : Int) = some (if dupB ((l.take k).map GPatch.path_) ((l.drop k).map GPatch.path_) = true then 14 else if l.all pvalid = true then 0 else 8) := by
  intro m
  induction m with
  | zero =>
   intro k fuel hm hk hf
   obtain ⟨fuel, rfl⟩ : ∃ k, fuel = k + 1 := ⟨fuel - 1, by omega⟩
   rw [f_sidingref17_Check_L8.eq_2, if_neg (by simp; omega), List.drop_of_length_le (by omega)]
   exact k40 l.length 0 n rfl (by omega) (by omega)
  | succ m ih =>
   intro k fuel hm hk hf
   obtain ⟨fuel, rfl⟩ : ∃ k, fuel = k + 1 := ⟨fuel - 1, by omega⟩
   have h1 : k < l.length := by omega
   have := k17 k h1 (fun a => f_sidingref17_Check_L8 n l fuel a) k 0 fuel (by omega) (by omega) (by omega)
   rw [f_sidingref17_Check_L8.eq_2, if_pos (by simp; omega)]
   refine Eq.trans this ?_
   rw [List.drop_zero, List.drop_eq_getElem_cons h1, List.map_cons, dupB]
   cases e : ((l.take k).map GPatch.path_).contains l[k].path_ with
   | true => simp
   | false =>
    rw [if_neg (by simp), ih (k + 1) fuel (by omega) (by omega) (by omega)]
    rw [List.take_succ_eq_append_getElem h1, List.map_append]
    rfl
 have := key l.length 0 n rfl (by omega) (by omega)
 simpa using this
end Go.Zv.G
namespace Go.Zv.G
open Go Go.Zv Go.Proofs
set_option maxRecDepth 100000
attribute [local simp high] bsome
theorem cutF_suffix : ∀ (a b : List S), ∃ s, a = s ++ (cutF a b).1 ∧ b = s ++ (cutF a b).2
 | [], b => ⟨[], by rw [cutF_nil_l]; simp⟩
 | x :: a, [] => ⟨[], by rw [cutF_nil_r]; simp⟩
 | x :: a, y :: b => by
  rw [cutF_cons]
  obtain ⟨s, h1, h2⟩ := cutF_suffix a b
  by_cases h : x = y
  ·
   rw [if_pos h]
   refine ⟨x :: s, ?_, ?_⟩
   ·
    rw [List.cons_append, ← h1]
   ·
    rw [List.cons_append, ← h2, h]
  ·
   rw [if_neg h]
   exact ⟨[], by simp⟩
theorem cutB_prefix (a b : List S) : ∃ s, a = (cutB a b).1 ++ s ∧ b = (cutB a b).2 ++ s := by
 obtain ⟨s, h1, h2⟩ := cutF_suffix a.reverse b.reverse
 refine ⟨s.reverse, ?_, ?_⟩
 ·
  have := congrArg List.reverse h1
  simpa [cutB] using this
 ·
  have := congrArg List.reverse h2
  simpa [cutB] using this
theorem trimL_mem {a b : List S} {x : S} : (x ∈ (trimL a b).1 → x ∈ a) ∧ (x ∈ (trimL a b).2 → x ∈ b) := by
 obtain ⟨s, h1, h2⟩ := cutF_suffix a b
 obtain ⟨t, h3, h4⟩ := cutB_prefix (cutF a b).1 (cutF a b).2
 constructor
 ·
  intro h
  rw [h1, h3]
  exact List.mem_append_right _ (List.mem_append_left _ h)
 ·
  intro h
  rw [h2, h4]
  exact List.mem_append_right _ (List.mem_append_left _ h)
theorem plainB_sub {a b : List S} (h : plainB b = true) (hl : a.length ≤ b.length) (hm : ∀ x ∈ a, x ∈ b) : plainB a = true := by
 unfold plainB at *
 simp only [Bool.and_eq_true, decide_eq_true_eq, Bool.not_eq_true'] at *
 refine ⟨by omega, ?_⟩
 rw [List.any_eq_false]
 intro x hx
 exact (List.any_eq_false.1 h.2) x (hm x hx)
theorem normHs_ok : ∀ (l : List GHunk) (e f : Int), 0 ≤ e → e ≤ f → okHs f l = true → okHs e (normHs e l) = true
 | [], e, f, _, _, _ => rfl
 | h :: l, e, f, h0, hef, hk => by
  rw [okHs, Bool.and_eq_true, Bool.and_eq_true] at hk
  obtain ⟨hv, hat, hk⟩ := hk
  have hat' : f ≤ h.at_ := by simpa using hat
  have hv2 := hv
  unfold validH at hv
  simp only [Bool.and_eq_true, decide_eq_true_eq] at hv
  obtain ⟨v1, v2, v3, v4, v5⟩ := hv
  have tl := trimL_len h.old_ h.new_
  rw [normHs]
  by_cases hc : 0 < (trimL h.old_ h.new_).1.length + (trimL h.old_ h.new_).2.length
  ·
   rw [if_pos hc, okHs, Bool.and_eq_true, Bool.and_eq_true]
   refine ⟨?_, by simp, ?_⟩
   ·
    unfold validH
    simp only [Bool.and_eq_true, decide_eq_true_eq]
    exact ⟨h0, by omega, plainB_sub v3 tl.1 fun x hx => trimL_mem.1 hx, plainB_sub v4 tl.2 fun x hx => trimL_mem.2 hx, hc⟩
   ·
    exact normHs_ok l _ _ (by dsimp only; omega) (by dsimp only; omega) hk
  ·
   rw [if_neg hc]
   exact normHs_ok l e _ h0 (by omega) hk
theorem hckE_zero2 {l : List GHunk} (h : hckE l = 0) : l.length ≤ 40 ∧ okHs 0 l = true := by
 unfold hckE at h
 split at h
 ·
  cases h
 ·
  split at h
  ·
   rename_i a b; exact ⟨by omega, b⟩
  ·
   cases h
theorem zero_hckE {l : List GHunk} (h1 : l.length ≤ 40) (h2 : okHs 0 l = true) : hckE l = 0 := by
 unfold hckE
 rw [if_neg (by omega), if_pos h2]
theorem normHs_le (l : List GHunk) : ∀ e : Int, (normHs e l).length ≤ l.length := by
 induction l with
 | nil => intro e; exact Nat.le_refl _
 | cons h l ih =>
  intro e
  rw [normHs]
  split
  ·
   simpa using ih _
  ·
   exact Nat.le_succ_of_le (ih e)
end Go.Zv.G
