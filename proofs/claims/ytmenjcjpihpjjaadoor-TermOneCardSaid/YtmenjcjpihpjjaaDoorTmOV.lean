/- Plain facts: the text of a term that may be is valid and short, and its parts can be told. -/
import Derived.Test.YtmenjcjpihpjjaaDoorTmR
import Derived.Lib.ValidLaws
set_option linter.unusedSimpArgs false
set_option linter.unusedVariables false
namespace Go.Proofs.YtmenjcjpihpjjaaDoor.Tm
open Go

theorem check_two {n b1 b2 b3 sz lo hi k : Nat} (h : Lib.checkN n b1 b2 b3 sz lo hi = some k) :
    (k = 2 ∧ sz = 2 ∧ 2 ≤ n ∧ lo ≤ b1 ∧ b1 ≤ hi) ∨ (k = 3 ∧ sz = 3 ∧ 3 ≤ n ∧ lo ≤ b1 ∧ b1 ≤ hi ∧ 128 ≤ b2 ∧ b2 ≤ 191) ∨ (k = 4 ∧ sz = 4 ∧ 4 ≤ n ∧ lo ≤ b1 ∧ b1 ≤ hi ∧ 128 ≤ b2 ∧ b2 ≤ 191 ∧ 128 ≤ b3 ∧ b3 ≤ 191) := by
  unfold Lib.checkN at h
  repeat' split at h
  all_goals first | (cases h; done) | (have h := Option.some.inj h; omega)
theorem check_2 {n b1 b2 b3 lo hi : Nat} (hn : 2 ≤ n) (h1 : lo ≤ b1) (h2 : b1 ≤ hi) : Lib.checkN n b1 b2 b3 2 lo hi = some 2 := by
  unfold Lib.checkN; rw [if_pos rfl, if_neg (by omega)]
theorem check_3 {n b1 b2 b3 lo hi : Nat} (hn : 3 ≤ n) (h1 : lo ≤ b1) (h2 : b1 ≤ hi) (h3 : 128 ≤ b2) (h4 : b2 ≤ 191) : Lib.checkN n b1 b2 b3 3 lo hi = some 3 := by
  unfold Lib.checkN; rw [if_neg (by omega), if_pos rfl, if_neg (by omega)]
theorem check_4 {n b1 b2 b3 lo hi : Nat} (hn : 4 ≤ n) (h1 : lo ≤ b1) (h2 : b1 ≤ hi) (h3 : 128 ≤ b2) (h4 : b2 ≤ 191) (h5 : 128 ≤ b3) (h6 : b3 ≤ 191) : Lib.checkN n b1 b2 b3 4 lo hi = some 4 := by
  unfold Lib.checkN; rw [if_neg (by omega), if_neg (by omega), if_pos rfl, if_neg (by omega)]
theorem acc_high : ∀ b : Fin 256, 128 ≤ b.1 → 2 ≤ Lib.firstT b.1 % 8 → Lib.firstT b.1 % 8 ≤ 4 → 128 ≤ Lib.accLo (Lib.firstT b.1 / 16) := by decide +kernel
/-- Valid bytes that begin high begin with a sign of high bytes. -/
theorem lead_cut (l : List UInt8) (hne : l ≠ []) (h0 : 128 ≤ (l.getD 0 0).toNat) (hv : Lib.validD l = true) :
    ∃ c m, l = c ++ m ∧ c ≠ [] ∧ (∀ b ∈ c, 128 ≤ b.toNat) ∧ Lib.validD m = true ∧ ∀ r, Lib.validD (c ++ r) = Lib.validD r := by
  rw [Lib.validD_lead l hne h0] at hv
  split at hv
  · cases hv
  · rename_i k hk
    have hlo := acc_high ⟨(l.getD 0 0).toNat, (l.getD 0 0).toNat_lt⟩ h0
    simp only at hlo
    rcases check_two hk with ⟨rfl, hsz, hn, h1, h2⟩ | ⟨rfl, hsz, hn, h1, h2, h3, h4⟩ | ⟨rfl, hsz, hn, h1, h2, h3, h4, h5, h6⟩
    · match l, hn with
      | b0 :: b1 :: m, _ =>
        have hl := hlo (by omega) (by omega)
        simp only [List.getD_cons_zero, List.getD_cons_succ] at *
        refine ⟨[b0, b1], m, rfl, by simp, ?_, by simpa using hv, fun r => ?_⟩
        · intro b hb; simp at hb; rcases hb with rfl | rfl <;> omega
        · rw [Lib.validD_lead _ (by simp) (by simpa using h0)]
          simp only [List.cons_append, List.nil_append, List.getD_cons_zero, List.getD_cons_succ, hsz]
          rw [check_2 (by simp) h1 h2]
          rfl
    · match l, hn with
      | b0 :: b1 :: b2 :: m, _ =>
        have hl := hlo (by omega) (by omega)
        simp only [List.getD_cons_zero, List.getD_cons_succ] at *
        refine ⟨[b0, b1, b2], m, rfl, by simp, ?_, by simpa using hv, fun r => ?_⟩
        · intro b hb; simp at hb; rcases hb with rfl | rfl | rfl <;> omega
        · rw [Lib.validD_lead _ (by simp) (by simpa using h0)]
          simp only [List.cons_append, List.nil_append, List.getD_cons_zero, List.getD_cons_succ, hsz]
          rw [check_3 (by simp) h1 h2 h3 h4]
          rfl
    · match l, hn with
      | b0 :: b1 :: b2 :: b3 :: m, _ =>
        have hl := hlo (by omega) (by omega)
        simp only [List.getD_cons_zero, List.getD_cons_succ] at *
        refine ⟨[b0, b1, b2, b3], m, rfl, by simp, ?_, by simpa using hv, fun r => ?_⟩
        · intro b hb; simp at hb; rcases hb with rfl | rfl | rfl | rfl <;> omega
        · rw [Lib.validD_lead _ (by simp) (by simpa using h0)]
          simp only [List.cons_append, List.nil_append, List.getD_cons_zero, List.getD_cons_succ, hsz]
          rw [check_4 (by simp) h1 h2 h3 h4 h5 h6]
          rfl
theorem must_low {c : Nat} (h : mustB c = true) : c < 128 := by unfold mustB at h; simp at h; omega
theorem esc_ascii : ∀ c : Fin 128, ∀ b ∈ escL c.1, b.toNat < 128 := by decide +kernel
theorem qByte_ascii (c : UInt8) (h : c.toNat < 128) : ∀ b ∈ qByte c, b.toNat < 128 := by
  intro b hb
  unfold qByte at hb
  split at hb
  · exact esc_ascii ⟨c.toNat, h⟩ b hb
  · simp at hb; subst hb; exact h
theorem ascii_skip (a r : List UInt8) (h : ∀ b ∈ a, b.toNat < 128) : Lib.validD (a ++ r) = Lib.validD r := by
  rw [Lib.validD_ascii a.length (a ++ r) (by rw [List.take_left]; exact h), List.drop_left]
theorem qL_high : ∀ c : List UInt8, (∀ b ∈ c, 128 ≤ b.toNat) → qL c = c
  | [], _ => rfl
  | b :: c, h => by
    unfold qL
    rw [List.flatMap_cons]
    have hb := h b (by simp)
    have hm : mustB b.toNat = false := by
      cases hm : mustB b.toNat with
      | false => rfl
      | true => exact absurd (must_low hm) (by omega)
    have e : qByte b = [b] := by unfold qByte; rw [hm]; simp
    have ih := qL_high c (fun x hx => h x (by simp [hx]))
    unfold qL at ih
    rw [e, ih]; rfl
theorem qL_app (a b : List UInt8) : qL (a ++ b) = qL a ++ qL b := by unfold qL; rw [List.flatMap_append]
/-- What stands behind valid bytes tells whether the whole is valid. -/
theorem valid_app : ∀ (n : Nat) (l r : List UInt8), l.length ≤ n → Lib.validD l = true → Lib.validD (l ++ r) = Lib.validD r
  | 0, l, r, h, _ => by
    have : l = [] := List.eq_nil_of_length_eq_zero (by omega)
    subst this; rfl
  | n + 1, [], r, _, _ => rfl
  | n + 1, b :: t, r, h, hv => by
    by_cases hb : b.toNat < 128
    · rw [Lib.validD_cons b t hb] at hv
      rw [List.cons_append, Lib.validD_cons b _ hb]
      exact valid_app n t r (by simp at h; omega) hv
    · obtain ⟨c, m, he, hc, hh, hm, hr⟩ := lead_cut (b :: t) (by simp) (by simpa using (Nat.not_lt.1 hb)) hv
      have hl : 0 < c.length := List.length_pos_iff.2 hc
      have hlen : (b :: t).length = c.length + m.length := by rw [he, List.length_append]
      rw [he, List.append_assoc, hr]
      exact valid_app n m r (by omega) hm
theorem valid_q : ∀ (n : Nat) (l r : List UInt8), l.length ≤ n → Lib.validD l = true → Lib.validD (qL l ++ r) = Lib.validD r
  | 0, l, r, h, _ => by
    have : l = [] := List.eq_nil_of_length_eq_zero (by omega)
    subst this; rfl
  | n + 1, [], r, _, _ => rfl
  | n + 1, b :: t, r, h, hv => by
    by_cases hb : b.toNat < 128
    · rw [Lib.validD_cons b t hb] at hv
      rw [show b :: t = [b] ++ t from rfl, qL_app, show qL [b] = qByte b by unfold qL; simp, List.append_assoc, ascii_skip _ _ (qByte_ascii b hb)]
      exact valid_q n t r (by simp at h; omega) hv
    · obtain ⟨c, m, he, hc, hh, hm, hr⟩ := lead_cut (b :: t) (by simp) (by simpa using (Nat.not_lt.1 hb)) hv
      have hl : 0 < c.length := List.length_pos_iff.2 hc
      have hlen : (b :: t).length = c.length + m.length := by rw [he, List.length_append]
      rw [he, qL_app, qL_high c hh, List.append_assoc, hr]
      exact valid_q n m r (by omega) hm

/-! ### the signs of the parts -/
theorem decode_cont (s : ByteArray) (i : Nat) (h : ¬ byteAt s i < 128) : ∀ j, 0 < j → j < (Utf8.decode s i).2 → 128 ≤ byteAt s (i + j) := by
  unfold byteAt at *
  unfold Utf8.decode
  simp only [Nat.add_zero]
  rw [if_neg h]
  repeat' split
  all_goals (try simp only [Bool.and_eq_true, decide_eq_true_eq, ge_iff_le, beq_iff_eq] at *)
  all_goals intro j h1 h2
  all_goals (try simp only at h2)
  all_goals
    rcases (show j = 1 ∨ j = 2 ∨ j = 3 ∨ 4 ≤ j by omega) with rfl | rfl | rfl | h4 <;> omega
theorem low_rune (s : ByteArray) : ∀ (f pos i : Nat), s.size ≤ pos + f → pos ≤ i → i < s.size → byteAt s i < 128 → byteAt s i ∈ runesF s f pos
  | 0, pos, i, h, h1, h2, _ => by omega
  | f + 1, pos, i, h, h1, h2, h3 => by
    unfold runesF
    rw [if_pos (by omega)]
    by_cases hb : byteAt s pos < 128
    · rw [decode_low s pos hb]
      by_cases e : i = pos
      · subst e; simp
      · exact List.mem_cons_of_mem _ (low_rune s f (pos + 1) i (by omega) (by omega) h2 h3)
    · have hd := (decode_high s pos hb).2
      refine List.mem_cons_of_mem _ (low_rune s f _ i (by omega) ?_ h2 h3)
      have hc := decode_cont s pos hb (i - pos)
      by_cases e : i = pos
      · subst e; exact absurd h3 hb
      · have : ¬ (i - pos < (Utf8.decode s pos).2) := fun hh => by
          have := hc (by omega) hh
          rw [show pos + (i - pos) = i by omega] at this; omega
        omega
theorem byteAt_get (s : ByteArray) (i : Nat) (h : i < s.size) : (lst s)[i]? = some (s.get! i) := by
  unfold lst
  have : i < s.data.size := h
  rw [Array.getElem?_toList, Array.getElem?_eq_getElem this]
  rw [show s.get! i = s.data[i]! from rfl, getElem!_pos s.data i this]
theorem mem_byte {s : ByteArray} {c : UInt8} (h : c ∈ lst s) : ∃ i, i < s.size ∧ byteAt s i = c.toNat := by
  obtain ⟨i, hi, he⟩ := List.getElem_of_mem h
  have hs : i < s.size := by have := size_list s; unfold lst at hi; omega
  refine ⟨i, hs, ?_⟩
  have := byteAt_get s i hs
  rw [List.getElem?_eq_getElem hi] at this
  unfold byteAt
  rw [← Option.some.inj this, he]
theorem odd_must : ∀ c : Fin 128, iriRuneB c.1 = true → mustB c.1 = false ∧ c.1 ≠ 62 := by decide +kernel
theorem iri_bytes {s : ByteArray} (h : iriB s = true) : ∀ c ∈ lst s, mustB c.toNat = false ∧ c ≠ 62 := by
  intro c hc
  obtain ⟨i, hi, he⟩ := mem_byte hc
  by_cases hlow : c.toNat < 128
  · have hm := low_rune s s.size 0 i (by omega) (Nat.zero_le _) hi (by omega)
    unfold iriB at h
    simp only [Bool.and_eq_true] at h
    have hp := List.all_eq_true.1 h.2 _ hm
    rw [he] at hp
    have := odd_must ⟨c.toNat, hlow⟩ hp
    exact ⟨this.1, fun hh => this.2 (show c.toNat = 62 by rw [hh]; rfl)⟩
  · refine ⟨?_, fun hh => hlow (by rw [hh]; decide)⟩
    cases hm : mustB c.toNat with
    | false => rfl
    | true => exact absurd (must_low hm) hlow
theorem label_bytes {s : ByteArray} (h : labelB s = true) : ∀ i, i < s.size → alnumB (byteAt s i) = true := by
  unfold labelB at h
  simp only [Bool.and_eq_true] at h
  exact (low_runes alnum_low s).1 h.2
def langSign (c : UInt8) : Bool := smallB c.toNat || digitB c.toNat || c == 45
theorem langGo_signs : ∀ (l : List UInt8) (i n : Nat), langGo i n l = true → ∀ c ∈ l, langSign c = true
  | [], _, _, _ => by simp
  | c :: l, i, n, h => by
    unfold langGo at h
    intro x hx
    split at h
    · rename_i hc
      rcases List.mem_cons.1 hx with rfl | hx
      · unfold langSign; rw [hc.1]; rfl
      · exact langGo_signs l _ _ h x hx
    · split at h
      · rename_i hr
        split at h
        · cases h
        · rcases List.mem_cons.1 hx with rfl | hx
          · unfold langSign
            unfold langRuneB at hr
            simp only [Bool.or_eq_true, Bool.and_eq_true] at hr ⊢
            rcases hr with hr | hr
            · exact .inl (.inl hr)
            · exact .inl (.inr hr.2)
          · exact langGo_signs l _ _ h x hx
      · cases h
theorem lang_bytes {s : ByteArray} (h : langB s = true) : ∀ c ∈ lst s, langSign c = true := by
  unfold langB at h
  simp only [Bool.and_eq_true] at h
  exact langGo_signs _ _ _ h.1
theorem lang_sign_low {c : UInt8} (h : langSign c = true) : c.toNat < 128 := by
  unfold langSign smallB digitB at h
  simp at h
  rcases h with h | h
  · omega
  · subst h; decide

/-! ### the text of a term that may be -/
theorem qL_len30 {s : ByteArray} (h : s.size ≤ 30) : (qL (lst s)).length ≤ 180 := by
  have h1 := qL_len (lst s)
  have h2 : (lst s).length = s.size := size_list s
  omega
theorem is_sizes {a : Trm} (h : isB a = true) : a.t.size ≤ 60 ∧ a.x.size ≤ 60 ∧ (a.k = 3 ∨ a.k = 4 ∨ a.k = 5 → a.t.size ≤ 30) ∧ (a.k = 1 ∨ a.k = 2 ∨ a.k = 3 → a.x.size = 0) ∧ 1 ≤ a.k ∧ a.k ≤ 5 := by
  unfold isB okB at h
  repeat' split at h
  all_goals (try simp only [Bool.and_eq_true, decide_eq_true_eq] at h)
  · have h1 := h.1; unfold iriB at h1; simp at h1; omega
  · have h1 := h.1; unfold labelB at h1; simp at h1; omega
  · omega
  · have h1 := h.2; unfold langB at h1; simp at h1; omega
  · have h1 := h.2; unfold iriB at h1; simp at h1; omega
  · cases h
theorem show_len {a : Trm} (h : isB a = true) : (showL a).length ≤ 250 := by
  obtain ⟨h1, h2, h3, h4, h5, h6⟩ := is_sizes h
  have hl : (lst a.t).length = a.t.size := size_list a.t
  have hl2 : (lst a.x).length = a.x.size := size_list a.x
  unfold showL quoteL
  repeat' split
  all_goals simp only [List.length_append, List.length_cons, List.length_nil]
  · omega
  · omega
  · have := qL_len30 (h3 (by omega)); omega
  · have := qL_len30 (h3 (by omega)); omega
  · have := qL_len30 (h3 (by omega)); omega
theorem show_size {a : Trm} (h : isB a = true) : (showS a).size ≤ 250 := by
  have := show_len h
  unfold showS
  simpa [ByteArray.size] using this
theorem valid_of (s : ByteArray) (h : validB s = true) (r : List UInt8) : Lib.validD (lst s ++ r) = Lib.validD r := valid_app _ _ _ (Nat.le_refl _) h
theorem valid_quote (s : ByteArray) (h : validB s = true) (r : List UInt8) : Lib.validD (quoteL (lst s) ++ r) = Lib.validD r := by
  unfold quoteL
  rw [List.cons_append, Lib.validD_cons _ _ (by decide), List.append_assoc, valid_q _ (lst s) _ (Nat.le_refl _) h, List.singleton_append, Lib.validD_cons _ _ (by decide)]
theorem show_valid {a : Trm} (h : isB a = true) : validB (showS a) = true := by
  show Lib.validD (showS a).data.toList = true
  rw [show (showS a).data.toList = showL a by unfold showS; simp]
  unfold isB okB at h
  unfold showL
  repeat' split at h
  all_goals (try simp only [Bool.and_eq_true, decide_eq_true_eq] at h)
  · rename_i hk
    have h1 := h.1; unfold iriB at h1; simp only [Bool.and_eq_true] at h1
    rw [if_pos hk, List.append_assoc, ascii_skip _ _ (by decide), valid_of _ h1.1.2]
    rfl
  · rename_i k1 hk
    have h1 := label_bytes h.1
    rw [if_neg k1, if_pos hk, ascii_skip _ _ (by decide)]
    rw [show lst a.t = lst a.t ++ [] by simp, ascii_skip _ _ (fun b hb => by
      obtain ⟨i, hi, he⟩ := mem_byte hb
      have := alnum_low _ (h1 i hi)
      omega)]
    rfl
  · rename_i k1 k2 hk
    rw [if_neg k1, if_neg k2, if_neg (by omega), if_neg (by omega), show quoteL (lst a.t) = quoteL (lst a.t) ++ [] by simp, valid_quote _ h.1.2]
    rfl
  · rename_i k1 k2 k3 hk
    rw [if_neg k1, if_neg k2, if_pos hk, List.append_assoc, valid_quote _ h.1.2, ascii_skip _ _ (by decide), show lst a.x = lst a.x ++ [] by simp, ascii_skip _ _ (fun b hb => lang_sign_low (lang_bytes h.2 b hb))]
    rfl
  · rename_i k1 k2 k3 k4 hk
    have h1 := h.2; unfold iriB at h1; simp only [Bool.and_eq_true] at h1
    rw [if_neg k1, if_neg k2, if_neg k4, if_pos hk, List.append_assoc, List.append_assoc, valid_quote _ h.1.2, ascii_skip _ _ (by decide), valid_of _ h1.1.2]
    rfl
  · cases h

/-! ### unlike terms have unlike texts -/
def hexN (c : UInt8) : Nat := if c.toNat ≤ 57 then c.toNat - 48 else c.toNat - 55
/-- The first sign of what stands escaped. -/
def unq : List UInt8 → Option (UInt8 × List UInt8)
  | [] => none
  | c :: r => if c = 92 then (match r with
      | [] => none
      | d :: r => if d = 117 then (match r with
          | _ :: _ :: p :: q :: r => some ((hexN p * 16 + hexN q).toUInt8, r)
          | _ => none) else if d = 110 then some (10, r) else if d = 114 then some (13, r) else if d = 116 then some (9, r) else if d = 98 then some (8, r) else if d = 102 then some (12, r) else some (d, r)) else some (c, r)
theorem unq_q (c : UInt8) (r : List UInt8) : unq (qByte c ++ r) = some (c, r) := by
  unfold qByte
  cases hm : mustB c.toNat with
  | true =>
    rw [if_pos rfl]
    have hc : c = c.toNat.toUInt8 := by simp
    rcases must_cases hm with h | h | h | h | h | h | h | h | h | h | h | h | h | h | h | h | h | h | h | h | h | h | h | h | h | h | h | h | h | h | h | h | h | h | h
    all_goals (rw [h] at hc ⊢; subst hc; rfl)
  | false =>
    rw [if_neg (by simp)]
    have : c ≠ 92 := by rintro rfl; revert hm; decide
    show (if c = 92 then _ else _) = _
    rw [if_neg this]; rfl
theorem q_head (c : UInt8) : ∃ d t, qByte c = d :: t ∧ d ≠ 34 := by
  unfold qByte
  cases hm : mustB c.toNat with
  | true =>
    rw [if_pos rfl]
    have : ∃ t, escL c.toNat = 92 :: t := by
      unfold escL
      repeat' split
      all_goals exact ⟨_, rfl⟩
    obtain ⟨t, ht⟩ := this
    exact ⟨92, t, ht, by decide⟩
  | false =>
    rw [if_neg (by simp)]
    refine ⟨c, [], rfl, ?_⟩
    rintro rfl; revert hm; decide
theorem q_inj : ∀ (l1 l2 r1 r2 : List UInt8), qL l1 ++ 34 :: r1 = qL l2 ++ 34 :: r2 → l1 = l2 ∧ r1 = r2
  | [], [], r1, r2, h => ⟨rfl, by simpa [qL] using h⟩
  | [], c :: l2, r1, r2, h => by
    obtain ⟨d, t, hd, hn⟩ := q_head c
    rw [show qL (c :: l2) = qByte c ++ qL l2 by unfold qL; rw [List.flatMap_cons], hd] at h
    simp [qL] at h
    exact absurd h.1.symm hn
  | c :: l1, [], r1, r2, h => by
    obtain ⟨d, t, hd, hn⟩ := q_head c
    rw [show qL (c :: l1) = qByte c ++ qL l1 by unfold qL; rw [List.flatMap_cons], hd] at h
    simp [qL] at h
    exact absurd h.1 hn
  | c :: l1, d :: l2, r1, r2, h => by
    rw [show qL (c :: l1) = qByte c ++ qL l1 by unfold qL; rw [List.flatMap_cons], show qL (d :: l2) = qByte d ++ qL l2 by unfold qL; rw [List.flatMap_cons], List.append_assoc, List.append_assoc] at h
    have h2 := congrArg unq h
    rw [unq_q, unq_q] at h2
    have h3 := Prod.mk.inj (Option.some.inj h2)
    obtain ⟨e1, e2⟩ := q_inj l1 l2 r1 r2 h3.2
    exact ⟨by rw [h3.1, e1], e2⟩
theorem lst_inj {a b : ByteArray} (h : lst a = lst b) : a = b := by rw [ba_lst a, ba_lst b, h]
theorem quote_inj {a b : ByteArray} {r1 r2 : List UInt8} (h : quoteL (lst a) ++ r1 = quoteL (lst b) ++ r2) : a = b ∧ r1 = r2 := by
  unfold quoteL at h
  rw [List.cons_append, List.cons_append, List.append_assoc, List.append_assoc] at h
  have := q_inj _ _ _ _ (List.cons.inj h).2
  exact ⟨lst_inj this.1, this.2⟩
/-- What stands behind the quoted text. -/
def tailL (a : Trm) : List UInt8 := if a.k = 4 then 64 :: lst a.x else if a.k = 5 then 94 :: 94 :: 60 :: (lst a.x ++ [62]) else []
theorem show_quote {a : Trm} (h : a.k = 3 ∨ a.k = 4 ∨ a.k = 5) : showL a = quoteL (lst a.t) ++ tailL a := by
  unfold showL tailL
  rcases h with h | h | h
  · rw [if_neg (by omega), if_neg (by omega), if_neg (by omega), if_neg (by omega), if_neg (by omega), if_neg (by omega)]; simp
  · rw [if_neg (by omega), if_neg (by omega), if_pos h, if_pos h]; simp
  · rw [if_neg (by omega), if_neg (by omega), if_neg (by omega), if_pos h, if_neg (by omega), if_pos h]; simp
theorem empty_eq {a b : ByteArray} (ha : a.size = 0) (hb : b.size = 0) : a = b := by rw [empty_list ha, empty_list hb]
theorem show_inj {a b : Trm} (ha : isB a = true) (hb : isB b = true) (h : showS a = showS b) : a = b := by
  obtain ⟨-, -, -, ha4, ha5, ha6⟩ := is_sizes ha
  obtain ⟨-, -, -, hb4, hb5, hb6⟩ := is_sizes hb
  have h : showL a = showL b := by
    have := congrArg (fun x => x.data.toList) h
    simpa [showS] using this
  obtain ⟨k, t, x⟩ := a
  obtain ⟨k', t', x'⟩ := b
  simp only at *
  have kq : ∀ {k : Int}, 1 ≤ k → k ≤ 5 → k = 1 ∨ k = 2 ∨ (k = 3 ∨ k = 4 ∨ k = 5) := by intro k h1 h2; omega
  have hq : ∀ (a : Trm), a.k = 3 ∨ a.k = 4 ∨ a.k = 5 → ∃ u, showL a = 34 :: u := fun a ha => by
    rw [show_quote ha]; unfold quoteL; exact ⟨_, rfl⟩
  rcases kq ha5 ha6 with rfl | rfl | hk
  · rcases kq hb5 hb6 with rfl | rfl | hk'
    · have e : lst t ++ [62] = lst t' ++ [62] := by simpa [showL] using h
      rw [lst_inj (List.append_cancel_right e), empty_eq (ha4 (by omega)) (hb4 (by omega))]
    · simp [showL] at h
    · obtain ⟨u, hu⟩ := hq ⟨k', t', x'⟩ hk'
      rw [hu] at h; simp [showL] at h
  · rcases kq hb5 hb6 with rfl | rfl | hk'
    · simp [showL] at h
    · have e : lst t = lst t' := by simpa [showL] using h
      rw [lst_inj e, empty_eq (ha4 (by omega)) (hb4 (by omega))]
    · obtain ⟨u, hu⟩ := hq ⟨k', t', x'⟩ hk'
      rw [hu] at h; simp [showL] at h
  · rcases kq hb5 hb6 with rfl | rfl | hk'
    · obtain ⟨u, hu⟩ := hq ⟨k, t, x⟩ hk
      rw [hu] at h; simp [showL] at h
    · obtain ⟨u, hu⟩ := hq ⟨k, t, x⟩ hk
      rw [hu] at h; simp [showL] at h
    · rw [show_quote (a := ⟨k, t, x⟩) hk, show_quote (a := ⟨k', t', x'⟩) hk'] at h
      obtain ⟨e1, e2⟩ := quote_inj h
      subst e1
      rcases hk with rfl | rfl | rfl <;> rcases hk' with rfl | rfl | rfl
      · rw [empty_eq (ha4 (by omega)) (hb4 (by omega))]
      · simp [tailL] at e2
      · simp [tailL] at e2
      · simp [tailL] at e2
      · have e : lst x = lst x' := by simpa [tailL] using e2
        rw [lst_inj e]
      · simp [tailL] at e2
      · simp [tailL] at e2
      · simp [tailL] at e2
      · have e : lst x ++ [62] = lst x' ++ [62] := by simpa [tailL] using e2
        rw [lst_inj (List.append_cancel_right e)]
theorem show_eq {a b : Trm} (ha : isB a = true) (hb : isB b = true) : ((showS a).toList == (showS b).toList) = decide (a = b) := by
  by_cases h : a = b
  · subst h; simp
  · rw [decide_eq_false h, beq_eq_false_iff_ne]
    intro hh
    rw [ByteArray.toList_eq, ByteArray.toList_eq] at hh
    exact h (show_inj ha hb (lst_inj hh))
end Go.Proofs.YtmenjcjpihpjjaaDoor.Tm
