/- Chapter 13, plain: a path that may be, as one of eight kinds; which may be. -/
import Derived.Test.YtbaegfjoionojaaDoorQaG
import Derived.Test.YtbaegfjoionojaaDoorQyM
set_option linter.unusedVariables false
set_option linter.unusedSimpArgs false
namespace Go.Proofs.YtbaegfjoionojaaDoor.Qa
open Go Go.Proofs.YtbaegfjoionojaaDoor.Qy Go.Proofs.YtbaegfjoionojaaDoor.Tm

/-! ### paths in the memory's form -/
def emp : ByteArray := ⟨#[]⟩
def Rx.p : Rx → Pth
  | .iri t => .mk 1 t [] []
  | .neg ts => .mk 8 ⟨#[]⟩ ts []
  | .back r => .mk 2 ⟨#[]⟩ [] [r.p]
  | .seq r s => .mk 3 ⟨#[]⟩ [] [r.p, s.p]
  | .alt r s => .mk 4 ⟨#[]⟩ [] [r.p, s.p]
  | .star r => .mk 5 ⟨#[]⟩ [] [r.p]
  | .plus r => .mk 6 ⟨#[]⟩ [] [r.p]
  | .maybe r => .mk 7 ⟨#[]⟩ [] [r.p]
def Rx.dp : Rx → Nat
  | .iri _ => 0
  | .neg _ => 0
  | .back r => r.dp + 1
  | .seq r s => max r.dp s.dp + 1
  | .alt r s => max r.dp s.dp + 1
  | .star r => r.dp + 1
  | .plus r => r.dp + 1
  | .maybe r => r.dp + 1
/-- Its texts may be. -/
def Rx.fine : Rx → Prop
  | .iri t => iriB t = true
  | .neg ts => 1 ≤ ts.length ∧ ts.length ≤ 4 ∧ ts.all iriB = true
  | .back r => r.fine
  | .seq r s => r.fine ∧ s.fine
  | .alt r s => r.fine ∧ s.fine
  | .star r => r.fine
  | .plus r => r.fine
  | .maybe r => r.fine
theorem size_emp {t : ByteArray} (h : t.size = 0) : t = ⟨#[]⟩ := by
  obtain ⟨a⟩ := t
  have : a = #[] := Array.eq_empty_of_size_eq_zero h
  rw [this]
theorem count_mk (k : Int) (t : ByteArray) (ts : List ByteArray) (ks : List Pth) (d : Nat) : countP (.mk k t ts ks) d = if hereB k t ts ks.length d = true then (countL ks (d + 1)).map (· + 1) else none := by rw [countP]
theorem countL_cons (q : Pth) (l : List Pth) (d : Nat) : countL (q :: l) d = match countP q d with
    | none => none
    | some n => (countL l d).map (n + ·) := by rw [countL]; cases countP q d <;> rfl
theorem countL_nil (d : Nat) : countL [] d = some 0 := by rw [countL]
theorem count_one (k : Int) (hk : k = 2 ∨ k = 5 ∨ k = 6 ∨ k = 7) (q : Pth) (d n : Nat) : countP (.mk k ⟨#[]⟩ [] [q]) d = some n ↔ d ≤ 5 ∧ ∃ m, countP q (d + 1) = some m ∧ n = m + 1 := by
  have hh : hereB k ⟨#[]⟩ [] 1 d = decide (d ≤ 5) := by
    unfold hereB kidsN
    rcases hk with rfl | rfl | rfl | rfl <;> simp [ByteArray.size]
  rw [count_mk, show [q].length = 1 from rfl, hh, countL_cons, countL_nil]
  simp only [decide_eq_true_eq]
  generalize countP q (d + 1) = c
  split
  · rename_i h5
    cases c with
    | none => simp
    | some m => simp [h5]; exact eq_comm
  · rename_i h5; simp [h5]
theorem count_two (k : Int) (hk : k = 3 ∨ k = 4) (q r : Pth) (d n : Nat) : countP (.mk k ⟨#[]⟩ [] [q, r]) d = some n ↔ d ≤ 5 ∧ ∃ m l, countP q (d + 1) = some m ∧ countP r (d + 1) = some l ∧ n = m + l + 1 := by
  have hh : hereB k ⟨#[]⟩ [] 2 d = decide (d ≤ 5) := by
    unfold hereB kidsN
    rcases hk with rfl | rfl <;> simp [ByteArray.size]
  rw [count_mk, show [q, r].length = 2 from rfl, hh, countL_cons, countL_cons, countL_nil]
  simp only [decide_eq_true_eq]
  generalize countP q (d + 1) = c
  generalize countP r (d + 1) = c'
  split
  · rename_i h5
    cases c with
    | none => simp
    | some m => cases c' with
      | none => simp
      | some l => simp [h5]; exact eq_comm
  · rename_i h5; simp [h5]
theorem count_rx : ∀ (r : Rx) (d n : Nat), countP r.p d = some n ↔ r.fine ∧ r.dp + d ≤ 5 ∧ n = r.sz
  | .iri t, d, n => by
    simp only [Rx.p, countP, countL, hereB, kidsN, Rx.fine, Rx.dp, Rx.sz]
    simp
    constructor
    · rintro ⟨⟨h1, h2⟩, h3⟩; exact ⟨h2, h1, h3.symm⟩
    · rintro ⟨h2, h1, h3⟩; exact ⟨⟨h1, h2⟩, h3.symm⟩
  | .neg ts, d, n => by
    simp only [Rx.p, countP, countL, hereB, kidsN, Rx.fine, Rx.dp, Rx.sz]
    simp [ByteArray.size]
    constructor
    · rintro ⟨⟨h1, ⟨h2, h4⟩, h5⟩, h3⟩; exact ⟨⟨h2, h4, h5⟩, h1, h3.symm⟩
    · rintro ⟨⟨h2, h4, h5⟩, h1, h3⟩; exact ⟨⟨h1, ⟨h2, h4⟩, h5⟩, h3.symm⟩
  | .back r, d, n => by
    simp only [Rx.p, count_one _ (by decide : (2 : Int) = 2 ∨ _ ), count_rx r, Rx.fine, Rx.dp, Rx.sz]
    constructor
    · rintro ⟨_, m, ⟨h1, h2, rfl⟩, h3⟩; exact ⟨h1, by omega, h3⟩
    · rintro ⟨h1, h2, h3⟩; exact ⟨by omega, _, ⟨h1, by omega, rfl⟩, h3⟩
  | .star r, d, n => by
    simp only [Rx.p, count_one _ (by decide : (5 : Int) = 2 ∨ _ ), count_rx r, Rx.fine, Rx.dp, Rx.sz]
    constructor
    · rintro ⟨_, m, ⟨h1, h2, rfl⟩, h3⟩; exact ⟨h1, by omega, h3⟩
    · rintro ⟨h1, h2, h3⟩; exact ⟨by omega, _, ⟨h1, by omega, rfl⟩, h3⟩
  | .plus r, d, n => by
    simp only [Rx.p, count_one _ (by decide : (6 : Int) = 2 ∨ _ ), count_rx r, Rx.fine, Rx.dp, Rx.sz]
    constructor
    · rintro ⟨_, m, ⟨h1, h2, rfl⟩, h3⟩; exact ⟨h1, by omega, h3⟩
    · rintro ⟨h1, h2, h3⟩; exact ⟨by omega, _, ⟨h1, by omega, rfl⟩, h3⟩
  | .maybe r, d, n => by
    simp only [Rx.p, count_one _ (by decide : (7 : Int) = 2 ∨ _ ), count_rx r, Rx.fine, Rx.dp, Rx.sz]
    constructor
    · rintro ⟨_, m, ⟨h1, h2, rfl⟩, h3⟩; exact ⟨h1, by omega, h3⟩
    · rintro ⟨h1, h2, h3⟩; exact ⟨by omega, _, ⟨h1, by omega, rfl⟩, h3⟩
  | .seq r s, d, n => by
    simp only [Rx.p, count_two _ (by decide : (3 : Int) = 3 ∨ _ ), count_rx r, count_rx s, Rx.fine, Rx.dp, Rx.sz]
    constructor
    · rintro ⟨_, m, l, ⟨h1, h2, rfl⟩, ⟨h4, h5, rfl⟩, h3⟩; exact ⟨⟨h1, h4⟩, by omega, h3⟩
    · rintro ⟨⟨h1, h4⟩, h2, h3⟩; exact ⟨by omega, _, _, ⟨h1, by omega, rfl⟩, ⟨h4, by omega, rfl⟩, h3⟩
  | .alt r s, d, n => by
    simp only [Rx.p, count_two _ (by decide : (4 : Int) = 3 ∨ _ ), count_rx r, count_rx s, Rx.fine, Rx.dp, Rx.sz]
    constructor
    · rintro ⟨_, m, l, ⟨h1, h2, rfl⟩, ⟨h4, h5, rfl⟩, h3⟩; exact ⟨⟨h1, h4⟩, by omega, h3⟩
    · rintro ⟨⟨h1, h4⟩, h2, h3⟩; exact ⟨by omega, _, _, ⟨h1, by omega, rfl⟩, ⟨h4, by omega, rfl⟩, h3⟩
theorem isP_rx (r : Rx) : isP r.p = true ↔ r.fine ∧ r.dp ≤ 5 ∧ r.sz ≤ 30 := by
  unfold isP
  have h := count_rx r 0
  cases hc : countP r.p 0 with
  | none =>
    simp only [Bool.false_eq_true, false_iff]
    rintro ⟨h1, h2, h3⟩
    have := (h r.sz).2 ⟨h1, h2, rfl⟩
    rw [hc] at this; cases this
  | some n =>
    obtain ⟨h1, h2, rfl⟩ := (h n).1 hc
    simp only [decide_eq_true_eq]
    exact ⟨fun h3 => ⟨h1, h2, h3⟩, fun h3 => h3.2.2⟩
/-- A path that may be is one of these. -/
theorem rx_of (p : Pth) : ∀ d n, countP p d = some n → ∃ r : Rx, r.p = p := by
  induction p using Pth.ind with
  | h k t ts ks ih =>
    intro d n h
    unfold countP at h
    split at h
    · rename_i hh
      unfold hereB at hh
      simp only [Bool.and_eq_true, decide_eq_true_eq] at hh
      obtain ⟨⟨⟨h5, hk⟩, ht⟩, hts⟩ := hh
      have kid : ∀ q ∈ ks, ∃ r : Rx, r.p = q := by
        have aux : ∀ (l : List Pth), (∀ q ∈ l, q ∈ ks) → ∀ m, countL l (d + 1) = some m → ∀ q ∈ l, ∃ r : Rx, r.p = q := by
          intro l
          induction l with
          | nil => intro _ m _ q hq; cases hq
          | cons a l ihl =>
            intro hl m hm q hq
            unfold countL at hm
            split at hm
            · cases hm
            · rename_i n1 h1
              rcases List.mem_cons.1 hq with rfl | hq
              · exact ih _ (hl _ List.mem_cons_self) _ _ h1
              · cases h2 : countL l (d + 1) with
                | none => rw [h2] at hm; cases hm
                | some m2 => exact ihl (fun q hq => hl q (List.mem_cons_of_mem _ hq)) m2 h2 q hq
        cases hc : countL ks (d + 1) with
        | none => rw [hc] at h; cases h
        | some m => exact aux ks (fun q hq => hq) m hc
      have t0 : k ≠ 1 → t = ⟨#[]⟩ := fun c => by rw [if_neg c, decide_eq_true_eq] at ht; exact size_emp ht
      have ts0 : k ≠ 8 → ts = [] := fun c => by rw [if_neg c, decide_eq_true_eq] at hts; exact List.eq_nil_of_length_eq_zero hts
      unfold kidsN at hk
      by_cases c0 : k = 1 ∨ k = 8
      · rw [if_pos c0] at hk
        obtain rfl := List.eq_nil_of_length_eq_zero (show ks.length = 0 by omega)
        rcases c0 with rfl | rfl
        · exact ⟨.iri t, by rw [ts0 (by decide)]; rfl⟩
        · exact ⟨.neg ts, by rw [t0 (by decide)]; rfl⟩
      · rw [if_neg c0] at hk
        rw [ts0 (fun e => c0 (Or.inr e)), t0 (fun e => c0 (Or.inl e))]
        by_cases c1 : k = 2 ∨ k = 5 ∨ k = 6 ∨ k = 7
        · rw [if_pos c1] at hk
          match ks, hk with
          | [q], _ =>
            obtain ⟨r, rfl⟩ := kid q List.mem_cons_self
            rcases c1 with rfl | rfl | rfl | rfl
            · exact ⟨.back r, rfl⟩
            · exact ⟨.star r, rfl⟩
            · exact ⟨.plus r, rfl⟩
            · exact ⟨.maybe r, rfl⟩
        · rw [if_neg c1] at hk
          by_cases c2 : k = 3 ∨ k = 4
          · rw [if_pos c2] at hk
            match ks, hk with
            | [q, q'], _ =>
              obtain ⟨r, rfl⟩ := kid q List.mem_cons_self
              obtain ⟨s, rfl⟩ := kid q' (List.mem_cons_of_mem _ List.mem_cons_self)
              rcases c2 with rfl | rfl
              · exact ⟨.seq r s, rfl⟩
              · exact ⟨.alt r s, rfl⟩
          · rw [if_neg c2] at hk; omega
    · cases h
theorem rx_isP {p : Pth} (h : isP p = true) : ∃ r : Rx, r.p = p ∧ r.fine ∧ r.dp ≤ 5 ∧ r.sz ≤ 30 := by
  have h2 := h
  unfold isP at h
  split at h
  · cases h
  · rename_i n hn
    obtain ⟨r, rfl⟩ := rx_of p 0 n hn
    exact ⟨r, rfl, (isP_rx r).1 h2⟩
theorem Rx.lay_leaves : ∀ (r : Rx) (b : Bool), (r.lay b).n ≤ 2 ^ r.dp
  | .iri _, b => Nat.le_refl _
  | .neg _, b => Nat.le_refl _
  | .back r, b => by have := r.lay_leaves (!b); simp only [Rx.lay, Rx.dp, Nat.pow_succ]; omega
  | .seq r s, b => by
    have h1 := r.lay_leaves b
    have h2 := s.lay_leaves b
    have h3 := Nat.pow_le_pow_right (n := 2) (by decide) (Nat.le_max_left r.dp s.dp)
    have h4 := Nat.pow_le_pow_right (n := 2) (by decide) (Nat.le_max_right r.dp s.dp)
    cases b <;> simp only [Rx.lay, Rx.dp, Nat.pow_succ, Lx.n_seq] <;> omega
  | .alt r s, b => by
    have h1 := r.lay_leaves b
    have h2 := s.lay_leaves b
    have h3 := Nat.pow_le_pow_right (n := 2) (by decide) (Nat.le_max_left r.dp s.dp)
    have h4 := Nat.pow_le_pow_right (n := 2) (by decide) (Nat.le_max_right r.dp s.dp)
    simp only [Rx.lay, Rx.dp, Nat.pow_succ, Lx.n_alt]; omega
  | .star r, b => by have := r.lay_leaves b; simp only [Rx.lay, Rx.dp, Nat.pow_succ, Lx.n_star]; omega
  | .plus r, b => by have := r.lay_leaves b; simp only [Rx.lay, Rx.dp, Nat.pow_succ, Lx.n_plus]; omega
  | .maybe r, b => by have := r.lay_leaves b; simp only [Rx.lay, Rx.dp, Nat.pow_succ, Lx.n_maybe]; omega
end Go.Proofs.YtbaegfjoionojaaDoor.Qa
