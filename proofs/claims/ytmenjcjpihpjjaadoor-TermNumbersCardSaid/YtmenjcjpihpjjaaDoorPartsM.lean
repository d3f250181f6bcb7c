/- Plain facts: the reference's parts and the program's way come to the same. No program in sight. -/
import Derived.Test.YtmenjcjpihpjjaaDoorRefp
set_option linter.unusedSimpArgs false
set_option linter.unusedVariables false
namespace Go.Proofs.YtmenjcjpihpjjaaDoor.Fb
open Go

theorem sign_eq (l : List UInt8) : signL l = ((signR l).2, (signR l).1) := by
  rcases l with _ | ⟨c, t⟩
  · rfl
  · rw [signR]
    unfold signL
    by_cases h1 : c = 45
    · subst h1; rfl
    · rw [if_neg h1]
      have e1 : Lib.hasPrefix (c :: t) [45] = false := by simp [Lib.hasPrefix, List.isPrefixOf]; intro h; exact h1 h.symm
      rw [e1]
      by_cases h2 : c = 43
      · subst h2; rfl
      · rw [if_neg h2]
        have e2 : Lib.hasPrefix (c :: t) [43] = false := by simp [Lib.hasPrefix, List.isPrefixOf]; intro h; exact h2 h.symm
        simp [Lib.trimPrefix, e2]
theorem point_eq (l : List UInt8) : pointL l = (pointR l).2 ∧ (pointR l).1 = (pointR l).2.1.length ∧ AllDig (pointR l).2.1 ∧ (pointR l).2.1.length + (pointR l).2.2.length ≤ l.length := by
  rcases l with _ | ⟨c, t⟩
  · exact ⟨rfl, rfl, (fun c hc => by cases hc), by simp [pointR]⟩
  · unfold pointL
    rw [pointR]
    by_cases h1 : c = 46
    · subst h1
      have e1 : Lib.trimPrefix (46 :: t) [46] = t := rfl
      have e0 : Lib.hasPrefix (46 :: t) [46] = true := rfl
      have hd := digN_le t
      rw [e0, e1, if_pos rfl, if_pos rfl]
      refine ⟨rfl, ?_, digN_take t, ?_⟩
      · show digN t = (t.take (digN t)).length
        rw [List.length_take]; omega
      · show (t.take (digN t)).length + (t.drop (digN t)).length ≤ _
        simp; omega
    · have e1 : Lib.hasPrefix (c :: t) [46] = false := by simp [Lib.hasPrefix, List.isPrefixOf]; intro h; exact h1 h.symm
      rw [if_neg h1, e1]
      exact ⟨rfl, rfl, (fun c hc => by cases hc), by simp⟩
theorem exp_eq (l : List UInt8) : match expR l with
    | none => (expL l).2 = false
    | some (x, y) => AllDig x ∧ x.length ≤ l.length ∧ (x.length ≤ 3 → expL l = (if y = true then -wholeI x else wholeI x, true)) ∧ (3 < x.length → (expL l).2 = false) := by
  rcases l with _ | ⟨c, t⟩
  · exact ⟨(fun c hc => by cases hc), by simp, fun _ => rfl, fun h => by simp at h⟩
  · rw [expR, expL]
    have hc : ((c.toNat : Int) = 101 ∨ (c.toNat : Int) = 69) ↔ (c = 101 ∨ c = 69) := by
      constructor
      · rintro (h | h)
        · exact .inl (UInt8.toNat_inj.1 (by show c.toNat = 101; omega))
        · exact .inr (UInt8.toNat_inj.1 (by show c.toNat = 69; omega))
      · rintro (h | h)
        · exact .inl (by rw [h]; rfl)
        · exact .inr (by rw [h]; rfl)
    have hsl := signL_len t
    rw [sign_eq] at hsl
    by_cases h : c = 101 ∨ c = 69
    · rw [if_pos h, if_pos (hc.2 h), sign_eq]
      simp only
      generalize signR t = q at *
      obtain ⟨y, x⟩ := q
      simp only at hsl ⊢
      by_cases h1 : x = [] ∨ digN x ≠ x.length
      · rw [if_pos h1]
        have : x = [] ∨ 3 < x.length ∨ digN x ≠ x.length := h1.elim .inl fun h => .inr (.inr h)
        rw [if_pos this]
      · rw [if_neg h1]
        have h2 : x ≠ [] ∧ digN x = x.length := ⟨fun h => h1 (.inl h), by
          by_cases h3 : digN x = x.length
          · exact h3
          · exact absurd (.inr h3) h1⟩
        refine ⟨digN_all h2.2, by simp; omega, fun h3 => ?_, fun h3 => ?_⟩
        · rw [if_neg]
          rintro (h | h | h)
          · exact h2.1 h
          · omega
          · exact h h2.2
        · rw [if_pos (.inr (.inl h3))]
    · rw [if_neg h, if_neg (fun g => h (hc.1 g))]
/-- What parts find. -/
theorem parts_facts {l m x : List UInt8} {b : Nat} {y : Bool} (h : partsL l = some (m, b, x, y)) : AllDig m ∧ AllDig x ∧ b ≤ l.length ∧ m.length ≤ l.length ∧ x.length ≤ l.length := by
  unfold partsL at h
  have hd := digN_le l
  obtain ⟨p1, p2, p3, p4⟩ := point_eq (l.drop (digN l))
  have he := exp_eq (pointR (l.drop (digN l))).2.2
  rw [List.length_drop] at p4
  split at h
  · cases h
  · cases hx : expR (pointR (l.drop (digN l))).2.2 with
    | none => rw [hx] at h; cases h
    | some z =>
      obtain ⟨x', y'⟩ := z
      rw [hx] at h he
      simp only [Option.map_some, Option.some.injEq, Prod.mk.injEq] at h he
      obtain ⟨h1, h2, h3, h4⟩ := h
      subst h1 h2 h3 h4
      refine ⟨(digN_take l).append p3, he.1, by omega, ?_, by omega⟩
      rw [List.length_append, List.length_take]
      omega
/-- By parts. -/
theorem plain_parts (l : List UInt8) : plainL l = match partsL l with
    | none => none
    | some (m, b, x, y) => if m.length ≤ 15 ∧ x.length ≤ 3 ∧ -22 ≤ (if y = true then -wholeI x else wholeI x) - b ∧ (if y = true then -wholeI x else wholeI x) - b ≤ 22 then scaleF (wholeI m) ((if y = true then -wholeI x else wholeI x) - b) else none := by
  unfold plainL partsL
  have hd := digN_le l
  obtain ⟨p1, p2, p3, p4⟩ := point_eq (l.drop (digN l))
  have he := exp_eq (pointR (l.drop (digN l))).2.2
  rw [p1]
  generalize pointR (l.drop (digN l)) = q at *
  obtain ⟨b, m', r⟩ := q
  simp only at p2 p3 p4 he ⊢
  have hl : (l.take (digN l) ++ m').length = digN l + b := by rw [List.length_append, List.length_take, ← p2]; omega
  by_cases h0 : digN l + b = 0
  · rw [if_pos h0, if_neg]
    rintro ⟨_, h, _⟩
    apply h
    apply List.eq_nil_of_length_eq_zero
    omega
  · rw [if_neg h0]
    have hne : l.take (digN l) ++ m' ≠ [] := by
      intro h
      rw [h] at hl
      simp at hl
      omega
    cases hx : expR r with
    | none =>
      rw [hx] at he
      simp only at he
      rw [if_neg]
      · rfl
      · rintro ⟨h, _⟩; rw [he] at h; cases h
    | some z =>
      obtain ⟨x, y⟩ := z
      rw [hx] at he
      simp only at he
      obtain ⟨e1, e2, e3, e4⟩ := he
      simp only [Option.map_some]
      by_cases h3 : x.length ≤ 3
      · rw [e3 h3]
        rw [← p2]
        by_cases h4 : (l.take (digN l) ++ m').length ≤ 15 ∧ x.length ≤ 3 ∧ -22 ≤ (if y = true then -wholeI x else wholeI x) - (b : Int) ∧ (if y = true then -wholeI x else wholeI x) - (b : Int) ≤ 22
        · rw [if_pos h4, if_pos ⟨rfl, hne, h4.1, h4.2.2.1, h4.2.2.2⟩]
        · rw [if_neg h4, if_neg]
          rintro ⟨_, _, g1, g2, g3⟩
          exact h4 ⟨g1, h3, g2, g3⟩
      · rw [if_neg, if_neg]
        · rintro ⟨_, h, _⟩; exact h3 h
        · rintro ⟨h, _⟩; rw [e4 (by omega)] at h; cases h
end Go.Proofs.YtmenjcjpihpjjaaDoor.Fb
