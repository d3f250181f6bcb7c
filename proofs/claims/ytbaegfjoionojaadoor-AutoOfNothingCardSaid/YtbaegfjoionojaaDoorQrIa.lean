/- How many paths are in one, plain; what a count of them says. -/
import Derived.Test.YtbaegfjoionojaaDoorQyU
set_option linter.unusedSimpArgs false
set_option linter.unusedVariables false
namespace Go.Proofs.YtbaegfjoionojaaDoor.Qy
open Go Go.RowKit Go.Proofs.YtbaegfjoionojaaDoor.Tm Go.Proofs.YtbaegfjoionojaaDoorW.PrintWords

/-- How many paths are in it; -1: it may not be. -/
def mayZ (p : Pth) (d : Nat) : Int := match countP p d with
  | none => -1
  | some n => (n : Int)
theorem may_no {k : Int} {t : ByteArray} {ts : List ByteArray} {ks : List Pth} {d : Nat} (h : hereB k t ts ks.length d = false) : mayZ (.mk k t ts ks) d = -1 := by
  unfold mayZ countP
  rw [h]; rfl
theorem may_kid {k : Int} {t : ByteArray} {ts : List ByteArray} {ks : List Pth} {d : Nat} (h : countL ks (d + 1) = none) : mayZ (.mk k t ts ks) d = -1 := by
  unfold mayZ countP
  rw [h]
  split <;> rename_i he <;> split at he <;> first | rfl | cases he
theorem may_yes {k : Int} {t : ByteArray} {ts : List ByteArray} {ks : List Pth} {d n : Nat} (hh : hereB k t ts ks.length d = true) (h : countL ks (d + 1) = some n) : mayZ (.mk k t ts ks) d = 1 + (n : Int) := by
  unfold mayZ countP
  rw [hh, if_pos rfl, h]
  show ((n + 1 : Nat) : Int) = _
  omega
theorem countL_none {l : List Pth} {d j : Nat} {q : Pth} (hq : l[j]? = some q) (h : countP q d = none) : countL l d = none := by
  induction l generalizing j with
  | nil => cases hq
  | cons p l ih =>
    unfold countL
    cases j with
    | zero =>
      obtain rfl : p = q := by simpa using hq
      rw [h]
    | succ j =>
      rw [ih (j := j) (by simpa using hq)]
      cases countP p d <;> rfl
theorem countL_of {l : List Pth} {d : Nat} (h : ∀ (j : Nat) (q : Pth), l[j]? = some q → countP q d ≠ none) : countL l d = some ((l.map (cnt d)).sum) := by
  induction l with
  | nil => rfl
  | cons p l ih =>
    have h0 := h 0 p rfl
    unfold countL
    cases hp : countP p d with
    | none => exact absurd hp h0
    | some n =>
      rw [ih (fun j q hq => h (j + 1) q hq)]
      simp only [Option.map_some, List.map_cons, List.sum_cons]
      unfold cnt
      rw [hp]; rfl
theorem count_lt : ∀ (p : Pth) (d n : Nat), countP p d = some n → d ≤ 5 ∧ n + 1 ≤ 2 ^ (6 - d) := by
  intro p
  induction p using Pth.ind with
  | h k t ts ks ih =>
  intro d n h
  obtain ⟨hh, m, hm, rfl⟩ := count_mk h
  obtain ⟨h1, h2, h3, h4⟩ := here_kind hh
  refine ⟨h1, ?_⟩
  have hp : 2 ≤ 2 ^ (6 - d) := by
    obtain ⟨e, he⟩ : ∃ e, 6 - d = e + 1 := ⟨5 - d, by omega⟩
    rw [he, Nat.pow_succ]
    have := Nat.one_le_two_pow (n := e)
    omega
  have hs : ∀ a : Nat, d + 1 ≤ 5 → a + 1 ≤ 2 ^ (6 - (d + 1)) → 2 * a + 2 ≤ 2 ^ (6 - d) := fun a h6 ha => by
    rw [show 6 - d = (6 - (d + 1)) + 1 by omega, Nat.pow_succ]; omega
  rcases kinds_of h2 with ⟨rfl, hk⟩ | ⟨rfl, hk⟩ | ⟨rfl, hk⟩ | ⟨rfl, hk⟩ | ⟨rfl, hk⟩ | ⟨rfl, hk⟩ | ⟨rfl, hk⟩ | ⟨rfl, hk⟩
  · obtain rfl := List.eq_nil_of_length_eq_zero hk
    simp [countL] at hm; omega
  · obtain rfl := List.eq_nil_of_length_eq_zero hk
    simp [countL] at hm; omega
  all_goals first
    | (obtain ⟨q, rfl⟩ := list1 hk
       obtain ⟨a1, a2⟩ := ih q (by simp) _ _ (count_one hm)
       have := hs _ a1 a2
       omega)
    | (obtain ⟨q, q2, rfl⟩ := list2 hk
       obtain ⟨a, b, ha, hb, rfl⟩ := count_two hm
       obtain ⟨a1, a2⟩ := ih q (by simp) _ _ ha
       obtain ⟨b1, b2⟩ := ih q2 (by simp) _ _ hb
       have := hs _ a1 a2
       have := hs _ b1 b2
       omega)
theorem count_63 {p : Pth} {d n : Nat} (h : countP p d = some n) : n ≤ 63 := by
  obtain ⟨h1, h2⟩ := count_lt p d n h
  have : 2 ^ (6 - d) ≤ 2 ^ 6 := Nat.pow_le_pow_right (by decide) (by omega)
  omega
theorem cnt_63 (d : Nat) (q : Pth) : cnt d q ≤ 63 := by
  unfold cnt
  cases h : countP q d with
  | none => simp
  | some n => have := count_63 h; simpa using this
theorem pre_63 (d : Nat) (l : List Pth) : ∀ i, i ≤ l.length → pre d l i ≤ 63 * i
  | 0, _ => by simp [pre]
  | i + 1, h => by
    have := pre_63 d l i (by omega)
    have e : l[i]? = some (l[i]'(by omega)) := List.getElem?_eq_getElem _
    rw [pre_step e]
    have := cnt_63 d (l[i]'(by omega))
    omega
theorem ret_z {a b : Int} (h : a = b) : Ending.returned (.int .i64 a) = .returned (.int .i64 b) := by rw [h]
mutual
/-- Its texts are short; its depth is free. -/
def Tame : Pth → Prop
  | .mk _ t ts ks => t.size ≤ 1000 ∧ (∀ x ∈ ts, x.size ≤ 1000) ∧ TameL ks
def TameL : List Pth → Prop
  | [] => True
  | p :: l => Tame p ∧ TameL l
end
theorem TameL.mem : ∀ {l : List Pth}, TameL l → ∀ q ∈ l, Tame q
  | [], _, _, hq => by cases hq
  | p :: l, h, q, hq => by
    unfold TameL at h
    rcases List.mem_cons.1 hq with rfl | hq
    · exact h.1
    · exact h.2.mem q hq
theorem TameL.of : ∀ {l : List Pth}, (∀ q ∈ l, Tame q) → TameL l
  | [], _ => by unfold TameL; trivial
  | p :: l, h => by unfold TameL; exact ⟨h p List.mem_cons_self, TameL.of fun q hq => h q (List.mem_cons_of_mem _ hq)⟩
theorem tame_mk {k : Int} {t : ByteArray} {ts : List ByteArray} {ks : List Pth} : Tame (.mk k t ts ks) ↔ t.size ≤ 1000 ∧ (∀ x ∈ ts, x.size ≤ 1000) ∧ ∀ q ∈ ks, Tame q := by
  constructor
  · intro h; unfold Tame at h; exact ⟨h.1, h.2.1, h.2.2.mem⟩
  · intro h; unfold Tame; exact ⟨h.1, h.2.1, TameL.of h.2.2⟩
theorem tame_of_big : ∀ (p : Pth) (d : Nat), bigP p d = false → Tame p := by
  intro p
  induction p using Pth.ind with
  | h k t ts ks ih =>
  intro d h
  obtain ⟨-, -, -, f4, f5, f6⟩ := big_facts h
  exact tame_mk.2 ⟨by omega, fun x hx => by have := f5 x hx; omega, fun q hq => ih q hq (d + 1) (f6 q hq)⟩
def MayC (fn : Nat) (p : Pth) : Prop := ∀ (d : Nat), d ≤ 100 → Tame p → ∀ (w : World) (ok : Nat → Prop) (k : Int) (t : ByteArray) (A : Option Addr) (n c : Nat) (B : Option Addr) (m e : Nat), PathAt w ok p [.int .i64 k, .string t, .slice A n c, .slice B m e] → Tabs w →
  Calls Tryd.prog fn #[.agg #[.int .i64 k, .string t, .slice A n c, .slice B m e], .int .i64 (d : Int)] w fun e w' => e = .returned (.int .i64 (mayZ p d)) ∧ Below w.heap.size w w'
theorem isP_may (p : Pth) : isP p = (decide (1 ≤ mayZ p 0) && decide (mayZ p 0 ≤ 30)) := by
  unfold isP mayZ
  cases h : countP p 0 with
  | none => rfl
  | some n =>
    have := count_pos h
    by_cases h30 : n ≤ 30
    · simp [h30]; omega
    · simp [h30]; omega
end Go.Proofs.YtbaegfjoionojaaDoor.Qy
