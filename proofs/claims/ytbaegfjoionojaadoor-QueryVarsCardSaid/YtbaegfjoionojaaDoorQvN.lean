/- Plain facts for QueryVars: a query of such patterns may be; its variables are few. -/
import Derived.Test.YtbaegfjoionojaaDoorQvJ
set_option linter.unusedSimpArgs false
set_option linter.unusedVariables false
namespace Go.Proofs.YtbaegfjoionojaaDoor.Qy
open Go Go.RowKit Go.Proofs.YtbaegfjoionojaaDoor.Tm Go.Proofs.YtbaegfjoionojaaDoorW.PrintWords

/-- A name: the m-th letter. -/
def nmB (m : Nat) : ByteArray := ⟨#[UInt8.ofNat (97 + m)]⟩
def names4 : List ByteArray := [nmB 0, nmB 1, nmB 2, nmB 3]
def mkP (a b : ByteArray) : Pat := ⟨⟨a, ⟨0, ⟨#[]⟩, ⟨#[]⟩⟩⟩, .mk 1 ⟨#[112]⟩ [] [], ⟨b, ⟨0, ⟨#[]⟩, ⟨#[]⟩⟩⟩⟩
/-- A pattern of two names. -/
def Lp (p : Pat) : Prop := ∃ a b, a ∈ names4 ∧ b ∈ names4 ∧ p = mkP a b
theorem nm_mem {m : Nat} (h : m < 4) : nmB m ∈ names4 := by
  rcases (show m = 0 ∨ m = 1 ∨ m = 2 ∨ m = 3 by omega) with rfl | rfl | rfl | rfl <;> simp [names4]
theorem nm_size (m : Nat) : (nmB m).size = 1 := rfl
theorem nm_end {a : ByteArray} (h : a ∈ names4) : endB ⟨a, ⟨0, ⟨#[]⟩, ⟨#[]⟩⟩⟩ = true ∧ a.size = 1 := by
  simp only [names4, List.mem_cons, List.not_mem_nil, or_false] at h
  rcases h with rfl | rfl | rfl | rfl
  all_goals
    refine ⟨?_, rfl⟩
    unfold endB
    rw [if_neg (by decide), noT_D]
    rfl
theorem lp_nar {p : Pat} (h : Lp p) : NarP p := by
  obtain ⟨a, b, ha, hb, rfl⟩ := h
  refine ⟨by kernel_rfl, ?_⟩
  show a.size + b.size + 0 + 0 + 0 + 0 ≤ 600
  rw [(nm_end ha).2, (nm_end hb).2]; decide
theorem lp_ok {p : Pat} (h : Lp p) : endB p.s = true ∧ endB p.o = true ∧ isP p.p = true := by
  obtain ⟨a, b, ha, hb, rfl⟩ := h
  exact ⟨(nm_end ha).1, (nm_end hb).1, by kernel_rfl⟩
theorem filt_len {α : Type} (x : α) (q : α → Bool) (hq : ∀ y, q y = false → y = x) : ∀ l : List α, l.Nodup → l.length ≤ (l.filter q).length + 1
  | [], _ => by simp
  | y :: l, h => by
    rw [List.nodup_cons] at h
    rw [List.filter_cons]
    cases hy : q y with
    | true =>
      have := filt_len x q hq l h.2
      simp only [if_true, List.length_cons]
      omega
    | false =>
      have e := hq y hy
      have : l.filter q = l := List.filter_eq_self.2 fun z hz => by
        cases hz2 : q z with
        | true => rfl
        | false =>
          have := hq z hz2
          subst e
          exact absurd (this ▸ hz) h.1
      simp [this]
theorem few {α : Type} : ∀ (L l : List α), l.Nodup → (∀ x ∈ l, x ∈ L) → l.length ≤ L.length
  | [], l, _, h => by
    cases l with
    | nil => simp
    | cons a l => exact absurd (h a (by simp)) (by simp)
  | x :: L, l, hn, h => by
    classical
    have h1 := filt_len x (fun y => decide (y ≠ x)) (fun y hy => by simpa using hy) l hn
    have h2 := few L (l.filter fun y => decide (y ≠ x)) (hn.filter _) (fun y hy => by
      rw [List.mem_filter] at hy
      rcases List.mem_cons.1 (h y hy.1) with rfl | h3
      · simp at hy
      · exact h3)
    simp only [List.length_cons]
    omega
theorem addV_nodup {l : List ByteArray} {v : ByteArray} (h : l.Nodup) : (addV l v).Nodup := by
  unfold addV
  split
  · exact h
  · rename_i hn
    rw [List.nodup_append]
    refine ⟨h, by simp, fun a ha b hb => ?_⟩
    simp only [List.mem_singleton] at hb
    subst hb
    rintro rfl
    exact hn (.inr ((Lib.containsS_iff l a).2 ha))
theorem addV_mem {l : List ByteArray} {v x : ByteArray} (h : x ∈ addV l v) : x ∈ l ∨ x = v := by
  unfold addV at h
  split at h
  · exact .inl h
  · simpa using h
theorem vars_few : ∀ (ps : List Pat) (l0 : List ByteArray), (∀ p ∈ ps, Lp p) → l0.Nodup → (∀ x ∈ l0, x ∈ names4) → (ps.foldl addP l0).Nodup ∧ ∀ x ∈ ps.foldl addP l0, x ∈ names4
  | [], l0, _, h1, h2 => ⟨h1, h2⟩
  | p :: ps, l0, hp, h1, h2 => by
    obtain ⟨a, b, ha, hb, rfl⟩ := hp p (by simp)
    refine vars_few ps (addP l0 (mkP a b)) (fun q hq => hp q (by simp [hq])) (addV_nodup (addV_nodup h1)) (fun x hx => ?_)
    rcases addV_mem hx with h | rfl
    · rcases addV_mem h with h | rfl
      · exact h2 x h
      · exact ha
    · exact hb
/-- The query of patterns of names. -/
def qOf (ps : List Pat) : Qry := ⟨false, [], ps, [], -1, 0⟩
theorem qOf_nar {ps : List Pat} (h : ∀ p ∈ ps, Lp p) (hl : ps.length ≤ 4) : Nar (qOf ps) :=
  ⟨by show ps.length ≤ 20; omega, by show 0 ≤ 20; omega, by show 0 ≤ 20; omega, fun p hp => lp_nar (h p hp)⟩
theorem qOf_is {ps : List Pat} (h : ∀ p ∈ ps, Lp p) (h1 : 1 ≤ ps.length) (hl : ps.length ≤ 4) : IsQ (qOf ps) := by
  obtain ⟨hn, hm⟩ := vars_few ps [] h List.nodup_nil (fun x hx => by cases hx)
  have := few names4 _ hn hm
  refine ⟨h1, hl, by show 0 ≤ 3; omega, fun i p hp => lp_ok (h p (List.mem_of_getElem? hp)), fun i f hf => (by cases hf), ?_, ⟨fun i v hv => (by cases hv), fun _ => rfl⟩, by show (-1 : Int) ≤ -1; omega, by show (-1 : Int) ≤ 1000; omega, by show (0 : Int) ≤ 0; omega, by show (0 : Int) ≤ 1000; omega⟩
  show (ps.foldl addP []).length ≤ 6
  have : names4.length = 4 := rfl
  omega
end Go.Proofs.YtbaegfjoionojaaDoor.Qy
