/- Paths, plain: what a text is read as, and how a path is written. -/
import Derived.Test.YtbaegfjoionojaaDoorTmC
set_option linter.unusedSimpArgs false
set_option linter.unusedVariables false
namespace Go.Proofs.YtbaegfjoionojaaDoor.Qy
open Go Go.Proofs.YtbaegfjoionojaaDoor.Tm

/-- A path: its kind, its text, its texts, its kids. -/
inductive Pth where
  | mk (k : Int) (t : ByteArray) (ts : List ByteArray) (ks : List Pth)
def Pth.k : Pth → Int | .mk k _ _ _ => k
def Pth.t : Pth → ByteArray | .mk _ t _ _ => t
def Pth.ts : Pth → List ByteArray | .mk _ _ ts _ => ts
def Pth.ks : Pth → List Pth | .mk _ _ _ ks => ks
def noP : Pth := .mk 0 ⟨#[]⟩ [] []
theorem Pth.eta (p : Pth) : p = .mk p.k p.t p.ts p.ks := by cases p; rfl
theorem Pth.ind {C : Pth → Prop} (h : ∀ k t ts ks, (∀ q ∈ ks, C q) → C (.mk k t ts ks)) : ∀ p, C p
  | .mk k t ts ks => h k t ts ks (fun q hq => Pth.ind h q)
termination_by p => SizeOf.sizeOf p
decreasing_by
  have := List.sizeOf_lt_of_mem hq
  simp
  omega
mutual
def sameP : Pth → Pth → Bool
  | .mk k t ts ks, .mk k' t' ts' ks' => decide (k = k') && decide (t = t') && decide (ts = ts') && sameL ks ks'
def sameL : List Pth → List Pth → Bool
  | [], [] => true
  | p :: l, q :: m => sameP p q && sameL l m
  | [], _ :: _ => false
  | _ :: _, [] => false
end
mutual
theorem same_iff : ∀ p q : Pth, sameP p q = true ↔ p = q
  | .mk k t ts ks, .mk k' t' ts' ks' => by
    unfold sameP
    simp only [Bool.and_eq_true, decide_eq_true_eq, sameL_iff ks ks', Pth.mk.injEq, and_assoc]
theorem sameL_iff : ∀ l m : List Pth, sameL l m = true ↔ l = m
  | [], [] => by simp [sameL]
  | p :: l, q :: m => by simp [sameL, same_iff p q, sameL_iff l m]
  | [], _ :: _ => by simp [sameL]
  | _ :: _, [] => by simp [sameL]
end

/-! ### a text, read -/
inductive Res (α : Type) where
  | ok (a : α) (i : Nat)
  | no (e : Int) (i : Nat)
def skipF (s : ByteArray) : Nat → Nat → Nat
  | 0, i => i
  | f + 1, i => if i < s.size ∧ byteAt s i = 32 then skipF s f (i + 1) else i
/-- The place behind blanks. -/
def skip (s : ByteArray) (i : Nat) : Nat := skipF s (s.size - i) i
/-- The sign there; nought: none. -/
def nx (s : ByteArray) (i : Nat) : Nat := if skip s i < s.size then byteAt s (skip s i) else 0
theorem skip_go {s : ByteArray} {i : Nat} (h : i < s.size) (hb : byteAt s i = 32) : skip s i = skip s (i + 1) := by
  unfold skip
  obtain ⟨f, hf⟩ : ∃ f, s.size - i = f + 1 := ⟨s.size - i - 1, by omega⟩
  rw [hf, show s.size - (i + 1) = f by omega]
  show (if i < s.size ∧ byteAt s i = 32 then _ else _) = _
  rw [if_pos ⟨h, hb⟩]
theorem skip_stop {s : ByteArray} {i : Nat} (h : ¬ (i < s.size ∧ byteAt s i = 32)) : skip s i = i := by
  unfold skip
  cases hf : s.size - i with
  | zero => rfl
  | succ f =>
    show (if i < s.size ∧ byteAt s i = 32 then _ else _) = _
    rw [if_neg h]
theorem skipF_facts (s : ByteArray) : ∀ f i, s.size ≤ i + f → i ≤ skipF s f i ∧ (i ≤ s.size → skipF s f i ≤ s.size) ∧ ¬ (skipF s f i < s.size ∧ byteAt s (skipF s f i) = 32)
  | 0, i, h => ⟨Nat.le_refl _, fun h => h, fun hh => by have : skipF s 0 i = i := rfl; rw [this] at hh; omega⟩
  | f + 1, i, h => by
    unfold skipF
    by_cases c : i < s.size ∧ byteAt s i = 32
    · rw [if_pos c]
      obtain ⟨h1, h2, h3⟩ := skipF_facts s f (i + 1) (by omega)
      exact ⟨by omega, fun _ => h2 (by omega), h3⟩
    · rw [if_neg c]
      exact ⟨Nat.le_refl _, fun h => h, c⟩
theorem skip_ge (s : ByteArray) (i : Nat) : i ≤ skip s i := (skipF_facts s (s.size - i) i (by omega)).1
theorem skip_le {s : ByteArray} {i : Nat} (h : i ≤ s.size) : skip s i ≤ s.size := (skipF_facts s (s.size - i) i (by omega)).2.1 h
theorem skip_end (s : ByteArray) (i : Nat) : ¬ (skip s i < s.size ∧ byteAt s (skip s i) = 32) := (skipF_facts s (s.size - i) i (by omega)).2.2
theorem skip_skip (s : ByteArray) (i : Nat) : skip s (skip s i) = skip s i := skip_stop (skip_end s i)
theorem nx_skip (s : ByteArray) (i : Nat) : nx s (skip s i) = nx s i := by unfold nx; rw [skip_skip]
theorem nx_in {s : ByteArray} {i : Nat} (h : nx s i ≠ 0) : skip s i < s.size ∧ byteAt s (skip s i) = nx s i := by
  unfold nx at h ⊢
  by_cases c : skip s i < s.size
  · rw [if_pos c]; exact ⟨c, rfl⟩
  · rw [if_neg c] at h; exact absurd rfl h
def findF (s : ByteArray) (c : Nat) : Nat → Nat → Option Nat
  | 0, _ => none
  | f + 1, i => if byteAt s i = c then some i else findF s c f (i + 1)
/-- Where a byte stands first, from a place on. -/
def findC (s : ByteArray) (c i : Nat) : Option Nat := findF s c (s.size - i) i
theorem find_hit {s : ByteArray} {c i : Nat} (h : i < s.size) (hb : byteAt s i = c) : findC s c i = some i := by
  unfold findC
  obtain ⟨f, hf⟩ : ∃ f, s.size - i = f + 1 := ⟨s.size - i - 1, by omega⟩
  rw [hf]
  show (if byteAt s i = c then _ else _) = _
  rw [if_pos hb]
theorem find_go {s : ByteArray} {c i : Nat} (h : i < s.size) (hb : byteAt s i ≠ c) : findC s c i = findC s c (i + 1) := by
  unfold findC
  obtain ⟨f, hf⟩ : ∃ f, s.size - i = f + 1 := ⟨s.size - i - 1, by omega⟩
  rw [hf, show s.size - (i + 1) = f by omega]
  show (if byteAt s i = c then _ else _) = _
  rw [if_neg hb]
theorem find_end {s : ByteArray} {c i : Nat} (h : s.size ≤ i) : findC s c i = none := by
  unfold findC
  rw [show s.size - i = 0 by omega]; rfl
theorem findF_facts (s : ByteArray) (c : Nat) : ∀ f i k, findF s c f i = some k → i ≤ k ∧ k < i + f ∧ byteAt s k = c
  | 0, i, k, h => by cases h
  | f + 1, i, k, h => by
    unfold findF at h
    split at h
    · rename_i hb
      obtain rfl := Option.some.inj h
      exact ⟨Nat.le_refl _, by omega, hb⟩
    · obtain ⟨h1, h2, h3⟩ := findF_facts s c f (i + 1) k h
      exact ⟨by omega, by omega, h3⟩
theorem find_facts {s : ByteArray} {c i k : Nat} (h : findC s c i = some k) : i ≤ k ∧ k < s.size ∧ byteAt s k = c := by
  obtain ⟨h1, h2, h3⟩ := findF_facts s c _ i k h
  refine ⟨h1, ?_, h3⟩
  by_cases hi : i ≤ s.size
  · omega
  · unfold findC at h
    rw [show s.size - i = 0 by omega] at h
    cases h
/-- An IRI in its signs. -/
def iriS (s : ByteArray) (i : Nat) : Res ByteArray :=
  if nx s i = 60 then
    match findC s 62 (skip s i + 1) with
    | some k => if iriB (s.extract (skip s i + 1) k) = true then .ok (s.extract (skip s i + 1) k) (k + 1) else .no 2 (skip s i)
    | none => .no 2 (skip s i)
  else .no 2 (skip s i)
/-- The IRIs behind the first one. -/
def textsS (s : ByteArray) : Nat → List ByteArray → Nat → Res (List ByteArray)
  | 0, _, i => .no 2 (skip s i)
  | f + 1, ts, i =>
    if nx s i = 124 then
      match iriS s (skip s i + 1) with
      | .ok t j => textsS s f (ts ++ [t]) j
      | .no e a => .no e a
    else if nx s i = 41 then .ok ts (skip s i + 1) else .no 2 (skip s i)
/-- What stands behind a negation's sign. -/
def notS (s : ByteArray) (i : Nat) : Res (List ByteArray) :=
  if i < s.size ∧ byteAt s i = 40 then
    match iriS s (i + 1) with
    | .ok t j => textsS s (s.size + 1) [t] j
    | .no e a => .no e a
  else
    match iriS s i with
    | .ok t j => .ok [t] j
    | .no e a => .no e a
def signK (c : Nat) : Option Int := if c = 42 then some 5 else if c = 43 then some 6 else if c = 63 then some 7 else none
def signsS (s : ByteArray) : Nat → Pth → Nat → Pth × Nat
  | 0, p, i => (p, skip s i)
  | f + 1, p, i =>
    match signK (nx s i) with
    | some k => signsS s f (.mk k ⟨#[]⟩ [] [p]) (skip s i + 1)
    | none => (p, skip s i)
def stepS (s : ByteArray) (B : Nat → Res Pth) (i : Nat) : Res Pth :=
  match B i with
  | .ok p j => .ok (signsS s (s.size + 1) p j).1 (signsS s (s.size + 1) p j).2
  | .no e a => .no e a
/-- What stands one behind the other, each behind a sign. -/
def chainS (s : ByteArray) (c : Nat) (kind : Int) (F : Nat → Res Pth) : Nat → Pth → Nat → Res Pth
  | 0, p, i => .ok p (skip s i)
  | f + 1, p, i =>
    if nx s i = c then
      match F (skip s i + 1) with
      | .ok q j => chainS s c kind F f (.mk kind ⟨#[]⟩ [] [p, q]) j
      | .no e a => .no e a
    else .ok p (skip s i)
def seqS (s : ByteArray) (B : Nat → Res Pth) (i : Nat) : Res Pth :=
  match stepS s B i with
  | .ok p j => chainS s 47 3 (stepS s B) (s.size + 1) p j
  | .no e a => .no e a
def pathS (s : ByteArray) (B : Nat → Res Pth) (i : Nat) : Res Pth :=
  match seqS s B i with
  | .ok p j => chainS s 124 4 (seqS s B) (s.size + 1) p j
  | .no e a => .no e a
/-- A step without what stands behind it: an IRI, a negation, or none. -/
def leafS (s : ByteArray) (i : Nat) : Res Pth :=
  if nx s i = 60 then
    match iriS s i with
    | .ok t j => .ok (.mk 1 t [] []) j
    | .no e a => .no e a
  else if nx s i = 33 then
    match notS s (skip s i + 1) with
    | .ok ts j => .ok (.mk 8 ⟨#[]⟩ ts []) j
    | .no e a => .no e a
  else .no 2 (skip s i)
/-- So deep there may still be. -/
def backS (s : ByteArray) : Nat → Nat → Res Pth
  | 0, i => if nx s i = 94 ∨ nx s i = 40 then .no 3 (skip s i) else leafS s i
  | d + 1, i =>
    if nx s i = 94 then
      match backS s d (skip s i + 1) with
      | .ok p j => .ok (.mk 2 ⟨#[]⟩ [] [p]) j
      | .no e a => .no e a
    else if nx s i = 40 then
      match pathS s (backS s d) (skip s i + 1) with
      | .ok p j => if nx s j = 41 then .ok p (skip s j + 1) else .no 2 (skip s j)
      | .no e a => .no e a
    else leafS s i
/-- What a text is read as; the place; the error. -/
def readS (s : ByteArray) : Pth × Nat × Int :=
  if 600 < s.size then (noP, 0, 4)
  else match pathS s (backS s 5) 0 with
    | .ok p i => if skip s i < s.size then (noP, skip s i, 2) else (p, s.size, 0)
    | .no e a => (noP, a, e)

/-! ### each step goes on -/
def Adv {α : Type} (s : ByteArray) (i : Nat) (r : Res α) : Prop := ∀ a j, r = .ok a j → i < j ∧ j ≤ s.size
theorem nx_adv {s : ByteArray} {i : Nat} (h : nx s i ≠ 0) : i < skip s i + 1 ∧ skip s i + 1 ≤ s.size := by
  have := (nx_in h).1
  have := skip_ge s i
  omega
theorem iri_adv (s : ByteArray) (i : Nat) : Adv s i (iriS s i) := by
  intro a j h
  unfold iriS at h
  have := skip_ge s i
  repeat' split at h
  all_goals first | (cases h; done) | skip
  rename_i k hk hi
  have := find_facts hk
  simp only [Res.ok.injEq] at h
  omega
theorem texts_adv (s : ByteArray) : ∀ f ts i, Adv s i (textsS s f ts i)
  | 0, ts, i => fun a j h => by cases h
  | f + 1, ts, i => fun a j h => by
    unfold textsS at h
    split at h
    · rename_i hn
      split at h
      · rename_i t k hk
        have h1 := iri_adv s _ t k hk
        have h2 := texts_adv s f _ k a j h
        have h3 := nx_adv (s := s) (i := i) (by omega)
        omega
      · cases h
    · split at h
      · rename_i hn
        have h3 := nx_adv (s := s) (i := i) (by omega)
        simp only [Res.ok.injEq] at h
        omega
      · cases h
theorem not_adv (s : ByteArray) (i : Nat) : Adv s i (notS s i) := by
  intro a j h
  unfold notS at h
  repeat' split at h
  · rename_i t k hk
    have h1 := iri_adv s _ t k hk
    have h2 := texts_adv s _ _ k a j h
    omega
  · cases h
  · rename_i t k hk
    have h1 := iri_adv s _ t k hk
    simp only [Res.ok.injEq] at h
    omega
  · cases h
theorem signs_adv (s : ByteArray) : ∀ f p i, i ≤ s.size → i ≤ (signsS s f p i).2 ∧ (signsS s f p i).2 ≤ s.size
  | 0, p, i, h => ⟨skip_ge s i, skip_le h⟩
  | f + 1, p, i, h => by
    unfold signsS
    split
    · rename_i k hk
      have h3 := nx_adv (s := s) (i := i) (by intro h0; rw [h0] at hk; simp [signK] at hk)
      have := signs_adv s f (.mk k ⟨#[]⟩ [] [p]) (skip s i + 1) h3.2
      omega
    · exact ⟨skip_ge s i, skip_le h⟩
theorem step_adv {s : ByteArray} {B : Nat → Res Pth} (hB : ∀ i, Adv s i (B i)) (i : Nat) : Adv s i (stepS s B i) := by
  intro a j h
  unfold stepS at h
  split at h
  · rename_i p k hk
    have h1 := hB i p k hk
    have h2 := signs_adv s (s.size + 1) p k h1.2
    simp only [Res.ok.injEq] at h
    omega
  · cases h
theorem chain_adv {s : ByteArray} {c : Nat} {kind : Int} {F : Nat → Res Pth} (hc : c ≠ 0) (hF : ∀ i, Adv s i (F i)) : ∀ f p i, i ≤ s.size → ∀ a j, chainS s c kind F f p i = .ok a j → i ≤ j ∧ j ≤ s.size
  | 0, p, i, hi, a, j, h => by
    unfold chainS at h
    simp only [Res.ok.injEq] at h
    have := skip_ge s i
    have := skip_le hi
    omega
  | f + 1, p, i, hi, a, j, h => by
    unfold chainS at h
    split at h
    · rename_i hn
      have h3 := nx_adv (s := s) (i := i) (by omega)
      split at h
      · rename_i q k hk
        have h1 := hF _ q k hk
        have h2 := chain_adv hc hF f _ k h1.2 a j h
        omega
      · cases h
    · simp only [Res.ok.injEq] at h
      have := skip_ge s i
      have := skip_le hi
      omega
theorem seq_adv {s : ByteArray} {B : Nat → Res Pth} (hB : ∀ i, Adv s i (B i)) (i : Nat) : Adv s i (seqS s B i) := by
  intro a j h
  unfold seqS at h
  split at h
  · rename_i p k hk
    have h1 := step_adv hB i p k hk
    have h2 := chain_adv (by decide) (step_adv hB) _ _ k h1.2 a j h
    omega
  · cases h
theorem path_adv {s : ByteArray} {B : Nat → Res Pth} (hB : ∀ i, Adv s i (B i)) (i : Nat) : Adv s i (pathS s B i) := by
  intro a j h
  unfold pathS at h
  split at h
  · rename_i p k hk
    have h1 := seq_adv hB i p k hk
    have h2 := chain_adv (by decide) (seq_adv hB) _ _ k h1.2 a j h
    omega
  · cases h
theorem leaf_adv (s : ByteArray) (i : Nat) : Adv s i (leafS s i) := by
  intro a j h
  unfold leafS at h
  repeat' split at h
  all_goals first | (cases h; done) | skip
  · rename_i t k hk
    have h1 := iri_adv s i t k hk
    simp only [Res.ok.injEq] at h
    omega
  · rename_i hn ts k hk
    have h1 := not_adv s _ ts k hk
    have h3 := nx_adv (s := s) (i := i) (by omega)
    simp only [Res.ok.injEq] at h
    omega
theorem back_adv (s : ByteArray) : ∀ d i, Adv s i (backS s d i)
  | 0, i => fun a j h => by
    unfold backS at h
    split at h
    · cases h
    · exact leaf_adv s i a j h
  | d + 1, i => fun a j h => by
    unfold backS at h
    split at h
    · rename_i hn
      have h3 := nx_adv (s := s) (i := i) (by omega)
      split at h
      · rename_i p k hk
        have h1 := back_adv s d _ p k hk
        simp only [Res.ok.injEq] at h
        omega
      · cases h
    · split at h
      · rename_i hn
        have h3 := nx_adv (s := s) (i := i) (by omega)
        split at h
        · rename_i p k hk
          have h1 := path_adv (back_adv s d) _ p k hk
          split at h
          · rename_i hm
            have h4 := nx_adv (s := s) (i := k) (by omega)
            simp only [Res.ok.injEq] at h
            omega
          · cases h
        · cases h
      · exact leaf_adv s i a j h

/-! ### a path, written; may it be -/
def inB (p : Pth) (x : List UInt8) : List UInt8 := if p.k = 1 then x else 40 :: (x ++ [41])
def glueL (k : Int) (t : ByteArray) (ts : List ByteArray) (ws : List (List UInt8)) : List UInt8 :=
  if k = 1 then 60 :: (t.data.toList ++ [62])
  else if k = 2 then 94 :: ws.getD 0 []
  else if k = 3 then ws.getD 0 [] ++ 47 :: ws.getD 1 []
  else if k = 4 then ws.getD 0 [] ++ 124 :: ws.getD 1 []
  else if k = 5 then ws.getD 0 [] ++ [42]
  else if k = 6 then ws.getD 0 [] ++ [43]
  else if k = 7 then ws.getD 0 [] ++ [63]
  else 33 :: 40 :: 60 :: (Lib.join (ts.map (·.data.toList)) [62, 124, 60] ++ [62, 41])
mutual
def showP : Pth → List UInt8
  | .mk k t ts ks => glueL k t ts (showsL ks)
def showsL : List Pth → List (List UInt8)
  | [] => []
  | p :: l => inB p (showP p) :: showsL l
end
def kidsN (k : Int) : Int := if k = 1 ∨ k = 8 then 0 else if k = 2 ∨ k = 5 ∨ k = 6 ∨ k = 7 then 1 else if k = 3 ∨ k = 4 then 2 else -1
/-- May a path be here, but for its kids? -/
def hereB (k : Int) (t : ByteArray) (ts : List ByteArray) (n : Nat) (d : Nat) : Bool :=
  decide (d ≤ 5) && decide ((n : Int) = kidsN k) && (if k = 1 then iriB t else decide (t.size = 0)) && (if k = 8 then decide (1 ≤ ts.length) && decide (ts.length ≤ 4) && ts.all iriB else decide (ts.length = 0))
mutual
def countP : Pth → Nat → Option Nat
  | .mk k t ts ks, d => if hereB k t ts ks.length d = true then (countL ks (d + 1)).map (· + 1) else none
def countL : List Pth → Nat → Option Nat
  | [], _ => some 0
  | p :: l, d => match countP p d with
    | none => none
    | some n => (countL l d).map (n + ·)
end
def isP (p : Pth) : Bool := match countP p 0 with
  | none => false
  | some n => decide (n ≤ 30)
mutual
def bigP : Pth → Nat → Bool
  | .mk _ t ts ks, d => decide (12 < d) || decide (4 < ks.length) || decide (20 < ts.length) || decide (300 < t.size) || ts.any (fun x => decide (300 < x.size)) || bigL ks (d + 1)
def bigL : List Pth → Nat → Bool
  | [], _ => false
  | p :: l, d => bigP p d || bigL l d
end
end Go.Proofs.YtbaegfjoionojaaDoor.Qy
