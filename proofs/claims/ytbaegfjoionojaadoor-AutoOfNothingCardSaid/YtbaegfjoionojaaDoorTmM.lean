/- Plain facts on the runes of a text, and on what may be in a term. -/
import Derived.Test.YtbaegfjoionojaaDoorWWords
import Derived.Shelf.GgClosure.StringsIndexFunc
import Derived.Laws.IdiomStrings
set_option linter.unusedSimpArgs false
set_option linter.unusedVariables false
namespace Go.Proofs.YtbaegfjoionojaaDoor.Tm
open Go

/-- The runes of a text from a place on. -/
def runesF (s : ByteArray) : Nat → Nat → List Nat
  | 0, _ => []
  | f + 1, pos => if pos < s.size then (Utf8.decode s pos).1 :: runesF s f (pos + (Utf8.decode s pos).2) else []
def runes (s : ByteArray) : List Nat := runesF s s.size 0
theorem idx_any (p : Nat → Bool) (s : ByteArray) : ∀ (f pos : Nat), decide (0 ≤ Lib.idxFuncFrom p true s f pos) = (runesF s f pos).any p
  | 0, _ => by simp [Lib.idxFuncFrom, runesF]
  | f + 1, pos => by
    unfold Lib.idxFuncFrom runesF
    by_cases h : pos < s.size
    · rw [if_pos h, if_pos h, List.any_cons]
      cases hp : p (Utf8.decode s pos).1 with
      | true => simp
      | false =>
        rw [if_neg (by simp), idx_any p s f]
        simp
    · rw [if_neg h, if_neg h]; rfl
theorem contains_func (p : Nat → Bool) (s : ByteArray) : decide (0 ≤ Lib.idxFunc p true s) = (runes s).any p := idx_any p s s.size 0
theorem not_any_not (p : Nat → Bool) (l : List Nat) : (!(l.any fun x => !p x)) = l.all p := by
  rw [List.not_any_eq_all_not]; simp
theorem runes_from (s : ByteArray) : ∀ (f pos : Nat) (acc : Array Value), (Conv.runesFrom s f pos acc).toList = acc.toList ++ (runesF s f pos).map (fun (r : Nat) => Value.int .i32 (r : Int))
  | 0, _, acc => by simp [Conv.runesFrom, runesF]
  | f + 1, pos, acc => by
    unfold Conv.runesFrom runesF
    by_cases h : pos < s.size
    · rw [if_pos h, if_pos h, runes_from s f]
      simp
    · rw [if_neg h, if_neg h]; simp
theorem runes_conv (s : ByteArray) : (Conv.runesFrom s s.size 0 #[]).toList = (runes s).map (fun (r : Nat) => Value.int .i32 (r : Int)) := by
  rw [runes_from]; simp [runes]
/-- A byte of a text. -/
def byteAt (s : ByteArray) (i : Nat) : Nat := (s.get! i).toNat
theorem decode_low (s : ByteArray) (i : Nat) (h : byteAt s i < 128) : Utf8.decode s i = (byteAt s i, 1) := by
  unfold byteAt at *
  unfold Utf8.decode
  simp only [Nat.add_zero]
  rw [if_pos h]
theorem decode_high (s : ByteArray) (i : Nat) (h : ¬ byteAt s i < 128) : 128 ≤ (Utf8.decode s i).1 ∧ 1 ≤ (Utf8.decode s i).2 := by
  unfold byteAt at *
  unfold Utf8.decode
  simp only [Nat.add_zero]
  rw [if_neg h]
  unfold Utf8.runeError
  repeat' split
  all_goals (try simp only [Bool.and_eq_true, decide_eq_true_eq, ge_iff_le] at *)
  all_goals (refine ⟨?_, ?_⟩ <;> (first | omega | (simp only; omega)))
/-- Where only low runes pass, all runes pass just where all bytes do. -/
theorem low_all {p : Nat → Bool} (hp : ∀ x, p x = true → x < 128) (s : ByteArray) : ∀ (f pos : Nat), s.size ≤ pos + f → ((runesF s f pos).all p = true ↔ ∀ i, pos ≤ i → i < s.size → p (byteAt s i) = true)
  | 0, pos, h => by
    simp only [runesF, List.all_nil, true_iff]
    intro i h1 h2; omega
  | f + 1, pos, h => by
    unfold runesF
    by_cases hlt : pos < s.size
    · rw [if_pos hlt, List.all_cons, Bool.and_eq_true]
      by_cases hb : byteAt s pos < 128
      · rw [decode_low s pos hb]
        have ih := low_all hp s f (pos + 1) (by omega)
        simp only
        rw [ih]
        constructor
        · rintro ⟨h1, h2⟩ i hi hs
          by_cases e : i = pos
          · subst e; exact h1
          · exact h2 i (by omega) hs
        · intro hh
          exact ⟨hh pos (Nat.le_refl _) hlt, fun i hi hs => hh i (by omega) hs⟩
      · have hd := (decode_high s pos hb).1
        constructor
        · rintro ⟨h1, _⟩
          exact absurd (hp _ h1) (by omega)
        · intro hh
          exact absurd (hp _ (hh pos (Nat.le_refl _) hlt)) hb
    · rw [if_neg hlt]
      simp only [List.all_nil, true_iff]
      intro i h1 h2; omega
theorem low_runes {p : Nat → Bool} (hp : ∀ x, p x = true → x < 128) (s : ByteArray) : (runes s).all p = true ↔ ∀ i, i < s.size → p (byteAt s i) = true := by
  unfold runes
  rw [low_all hp s s.size 0 (by omega)]
  exact ⟨fun h i hi => h i (Nat.zero_le _) hi, fun h i _ hi => h i hi⟩
def smallB (x : Nat) : Bool := decide (97 ≤ x) && decide (x ≤ 122)
def digitB (x : Nat) : Bool := decide (48 ≤ x) && decide (x ≤ 57)
def upperB (x : Nat) : Bool := decide (65 ≤ x) && decide (x ≤ 90)
def letterB (x : Nat) : Bool := smallB x || upperB x
def alnumB (x : Nat) : Bool := letterB x || digitB x
/-- A rune that an IRI may not have, of the low ones. -/
def oddB (x : Nat) : Bool := x == 34 || x == 60 || x == 62 || x == 92 || x == 94 || x == 96 || x == 123 || x == 124 || x == 125
def iriRuneB (x : Nat) : Bool := (decide (32 < x) && decide (x < 127) && !oddB x) || decide (160 ≤ x)
def langRuneB (i : Nat) (x : Nat) : Bool := smallB x || (decide (0 < i) && digitB x)
theorem small_low (x : Nat) (h : smallB x = true) : x < 128 := by unfold smallB at h; simp at h; omega
theorem digit_low (x : Nat) (h : digitB x = true) : x < 128 := by unfold digitB at h; simp at h; omega
theorem alnum_low (x : Nat) (h : alnumB x = true) : x < 128 := by unfold alnumB letterB smallB upperB digitB at h; simp at h; omega
theorem lang_low (i x : Nat) (h : langRuneB i x = true) : x < 128 := by unfold langRuneB smallB digitB at h; simp at h; omega
end Go.Proofs.YtbaegfjoionojaaDoor.Tm
