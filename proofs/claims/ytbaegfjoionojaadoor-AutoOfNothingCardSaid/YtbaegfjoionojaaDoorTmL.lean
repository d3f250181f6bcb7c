/- Plain facts on languages: their parts, and the reference's run over the bytes. -/
import Derived.Test.YtbaegfjoionojaaDoorTmM
import Derived.Lib.SplitLaws
set_option linter.unusedSimpArgs false
set_option linter.unusedVariables false
namespace Go.Proofs.YtbaegfjoionojaaDoor.Tm
open Go

theorem get_list (s : ByteArray) (i : Nat) (h : i < s.size) : s.data.toList[i]? = some (s.get! i) := by
  have h2 : i < s.data.size := h
  rw [Array.getElem?_toList, Array.getElem?_eq_getElem h2]
  congr 1
  exact (getElem!_pos s.data i h2).symm
theorem low_list {p : Nat → Bool} (hp : ∀ x, p x = true → x < 128) (s : ByteArray) : (runes s).all p = s.data.toList.all (fun b => p b.toNat) := by
  rw [Bool.eq_iff_iff, low_runes hp, List.all_eq_true]
  constructor
  · intro h x hx
    obtain ⟨i, hi, rfl⟩ := List.getElem_of_mem hx
    have hi2 : i < s.size := by simpa using hi
    have := h i hi2
    unfold byteAt at this
    have e := get_list s i hi2
    rw [List.getElem?_eq_getElem hi] at e
    injection e with e
    rw [e]; exact this
  · intro h i hi
    have e := get_list s i hi
    exact h _ (List.mem_of_getElem? e)
/-- The parts between the signs 45. -/
def splitD : List UInt8 → List (List UInt8)
  | [] => [[]]
  | c :: l => if c = 45 then [] :: splitD l else match splitD l with
    | [] => [[c]]
    | h :: t => (c :: h) :: t
theorem splitD_ne : ∀ l, splitD l ≠ []
  | [] => by simp [splitD]
  | c :: l => by
    unfold splitD
    by_cases h : c = 45
    · rw [if_pos h]; simp
    · rw [if_neg h]; split <;> simp
theorem index_cons (c : UInt8) (l : List UInt8) : Lib.index (c :: l) [45] = if c = 45 then 0 else if Lib.index l [45] = -1 then -1 else Lib.index l [45] + 1 := by
  rw [Lib.index]
  by_cases h : c = 45
  · subst h; simp
  · rw [if_neg h]
    have : List.isPrefixOf [45] (c :: l) = false := by
      simp [List.isPrefixOf]
      intro e; exact h e.symm
    rw [this]
    simp
theorem split_eq : ∀ l : List UInt8, Lib.split l [45] = splitD l
  | [] => by
    unfold Lib.split
    rw [Lib.count_miss (by simp [Lib.index])]
    rfl
  | c :: l => by
    have ih := split_eq l
    have hi := index_cons c l
    by_cases h : c = 45
    · rw [if_pos h] at hi
      unfold splitD
      rw [if_pos h, ← ih]
      unfold Lib.split
      rw [Lib.count_hit (i := 0) (by simp) hi, Nat.add_comm, Lib.splitK, if_neg (by rw [hi]; decide), hi]
      simp
    · rw [if_neg h] at hi
      by_cases hm : Lib.index l [45] = -1
      · rw [if_pos hm] at hi
        have e1 : Lib.split (c :: l) [45] = [c :: l] := by
          unfold Lib.split; rw [Lib.count_miss hi]; rfl
        have e2 : Lib.split l [45] = [l] := by
          unfold Lib.split; rw [Lib.count_miss hm]; rfl
        rw [e1]
        unfold splitD
        rw [if_neg h, ← ih, e2]
      · rw [if_neg hm] at hi
        have hge := Lib.index_ge l [45]
        obtain ⟨i, hI⟩ : ∃ i : Nat, Lib.index l [45] = i := ⟨(Lib.index l [45]).toNat, by omega⟩
        rw [hI] at hi
        have e1 : Lib.split (c :: l) [45] = (c :: l.take i) :: Lib.splitK [45] 0 (Lib.count (l.drop (i + 1)) [45]) (l.drop (i + 1)) := by
          unfold Lib.split
          rw [Lib.count_hit (i := i + 1) (by simp) (by rw [hi]; rfl), Nat.add_comm, Lib.splitK, if_neg (by rw [hi]; simp; omega), hi]
          have : ((i : Int) + 1).toNat = i + 1 := by omega
          rw [this]; simp
        have e2 : Lib.split l [45] = l.take i :: Lib.splitK [45] 0 (Lib.count (l.drop (i + 1)) [45]) (l.drop (i + 1)) := by
          unfold Lib.split
          rw [Lib.count_hit (i := i) (by simp) hI, Nat.add_comm, Lib.splitK, if_neg (by rw [hI]; simp), hI]
          simp
        rw [e1]
        unfold splitD
        rw [if_neg h, ← ih, e2]
/-- May a part be the i-th? -/
def partB (i : Nat) (x : List UInt8) : Bool := decide (0 < x.length) && decide (x.length ≤ 8) && x.all (fun b => langRuneB i b.toNat)
def partsB : Nat → List (List UInt8) → Bool
  | _, [] => true
  | i, x :: l => partB i x && partsB (i + 1) l
/-- The reference's run: so many parts, so many letters of the last one. -/
def langGo : Nat → Nat → List UInt8 → Bool
  | _, n, [] => decide (0 < n)
  | i, n, c :: l => if c = 45 ∧ 0 < n then langGo (i + 1) 0 l else if langRuneB i c.toNat = true then (if 8 < n + 1 then false else langGo i (n + 1) l) else false
theorem dash_no (i : Nat) : langRuneB i (45 : UInt8).toNat = false := by unfold langRuneB smallB digitB; simp
theorem langGo_parts : ∀ (l : List UInt8) (i n : Nat), n ≤ 8 → langGo i n l = match splitD l with
    | [] => true
    | h :: t => (decide (0 < n + h.length) && decide (n + h.length ≤ 8) && h.all (fun b => langRuneB i b.toNat)) && partsB (i + 1) t
  | [], i, n, hn => by simp [langGo, splitD, partsB, hn]
  | c :: l, i, n, hn => by
    unfold langGo splitD
    by_cases h : c = 45
    · rw [if_pos h]
      by_cases h0 : 0 < n
      · rw [if_pos ⟨h, h0⟩, langGo_parts l (i + 1) 0 (by omega)]
        cases hs : splitD l with
        | nil => exact absurd hs (splitD_ne l)
        | cons x t => simp [partsB, partB, h0, hn]
      · rw [if_neg (fun hh => h0 hh.2), h, dash_no, if_neg (by simp)]
        simp
        try omega
    · rw [if_neg (fun hh => h hh.1), if_neg h]
      cases hs : splitD l with
      | nil => exact absurd hs (splitD_ne l)
      | cons x t =>
        simp only
        cases hr : langRuneB i c.toNat with
        | false => simp [hr]
        | true =>
          rw [if_pos rfl]
          by_cases h8 : 8 < n + 1
          · rw [if_pos h8]
            have : decide (n + (c :: x).length ≤ 8) = false := by simp; omega
            rw [this]; try simp
          · rw [if_neg h8, langGo_parts l i (n + 1) (by omega), hs]
            simp only [List.length_cons, List.all_cons, hr, Bool.true_and]
            have e : n + 1 + x.length = n + (x.length + 1) := by omega
            rw [e]
/-- May a text be a language? -/
def langB (s : ByteArray) : Bool := langGo 0 0 s.data.toList && decide (s.size ≤ 16)
theorem langGo_split (l : List UInt8) : langGo 0 0 l = partsB 0 (Lib.split l [45]) := by
  rw [langGo_parts l 0 0 (by omega), split_eq]
  cases hs : splitD l with
  | nil => exact absurd hs (splitD_ne l)
  | cons x t => simp [partsB, partB]
theorem parts_false {i : Nat} : ∀ {l : List (List UInt8)} (k : Nat) (x : List UInt8), l[k]? = some x → partB (i + k) x = false → partsB i l = false
  | [], k, x, h, _ => by simp at h
  | y :: l, 0, x, h, hp => by
    simp at h; subst h
    unfold partsB
    rw [show i + 0 = i from rfl] at hp
    rw [hp]; rfl
  | y :: l, k + 1, x, h, hp => by
    unfold partsB
    have := parts_false (i := i + 1) (l := l) k x (by simpa using h) (by rw [show i + 1 + k = i + (k + 1) by omega]; exact hp)
    rw [this]; simp
theorem parts_true {i : Nat} : ∀ {l : List (List UInt8)}, (∀ k x, l[k]? = some x → partB (i + k) x = true) → partsB i l = true
  | [], _ => rfl
  | y :: l, h => by
    unfold partsB
    have h0 := h 0 y rfl
    rw [show i + 0 = i from rfl] at h0
    rw [h0, parts_true (i := i + 1) (l := l) (fun k x hk => by rw [show i + 1 + k = i + (k + 1) by omega]; exact h (k + 1) x (by simpa using hk))]
    rfl
end Go.Proofs.YtbaegfjoionojaaDoor.Tm
