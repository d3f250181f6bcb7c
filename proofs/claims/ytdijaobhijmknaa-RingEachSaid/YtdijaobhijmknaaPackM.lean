/- Plain facts for chapter 2 (pack): what rows of bits are, and that packing and unpacking undo one another. No program in sight. -/
import Derived.Laws.BitsLemmas
import Derived.RowKit
import Derived.Laws.BytesArg
import Derived.Lib.Bytes
import Derived.Test.YtdijaobhijmknaaWWords
set_option linter.unusedSimpArgs false
set_option linter.unusedVariables false
namespace Go.Proofs.Ytdijaobhijmknaa.PM
open Go Go.RowKit Go.Proofs.YtdijaobhijmknaaW.PrintWords
theorem wraps_i64_ (n : Int) (h₀ : 0 ≤ n) (h₁ : n < 2 ^ 63) : IntKind.i64.wrap n = n := by rw [IntKind.wrap_i64]; omega
def orAt (b : List Int) (p : Nat) (x : Int) (j : Nat) : List Int :=
  b.set (p / 8) (bits .or .u8 (rd b ((p / 8 : Nat) : Int)) (bits .and .i64 (x / 2 ^ j) 1 % 256 * 2 ^ (p % 8) % 256))
def inner (wd : Nat) (x : Int) (k : Nat) (b : List Int) : Nat → List Int
  | 0 => b
  | j + 1 => orAt (inner wd x k b j) (k * wd + j) x j
def outer (l : List Int) (wd : Nat) (b : List Int) : Nat → List Int
  | 0 => b
  | k + 1 => inner wd (rd l k) k (outer l wd b k) wd
def zeroBs (n : Nat) : List Int := List.replicate ((n + 7) / 8) 0
def packed (l : List Int) (wd : Nat) : List Int := outer l wd (zeroBs (l.length * wd)) l.length

def Bytes (b : List Int) : Prop := ∀ x ∈ b, 0 ≤ x ∧ x < 256
def bitAt (b : List Int) (p : Nat) : Bool := (rd b ((p / 8 : Nat) : Int)).toNat.testBit (p % 8)

theorem rd_nat (b : List Int) (i : Nat) : rd b (i : Int) = b.getD i 0 := rfl
theorem Bytes.rd_ {b : List Int} (h : Bytes b) (i : Int) : 0 ≤ rd b i ∧ rd b i < 256 := by
  unfold rd
  rw [List.getD_eq_getElem?_getD]
  rcases hx : b[i.toNat]? with _ | x
  · simp
  · simpa using h x (List.mem_of_getElem? hx)
theorem bit_lsb (x : Int) (j : Nat) (h : 0 ≤ x) (h1 : x < 2 ^ 63) : bits .and .i64 (x / 2 ^ j) 1 = if x.toNat.testBit j then 1 else 0 := by
  obtain ⟨n, rfl⟩ := Int.eq_ofNat_of_zero_le h
  have e : ((n : Int) / 2 ^ j) = ((n / 2 ^ j : Nat) : Int) := by simp
  have hlt : n / 2 ^ j < 2 ^ 63 := Nat.lt_of_le_of_lt (Nat.div_le_self _ _) (by omega)
  have := (bits_nat .i64 63 (by decide) wraps_i64_ (n / 2 ^ j) 1 hlt (by decide)).1
  rw [e]
  rw [show ((1 : Nat) : Int) = 1 from rfl] at this
  rw [this]
  have h2 : Int.toNat (n : Int) = n := by simp
  rw [h2, Nat.testBit_eq_decide_div_mod_eq, Nat.and_one_is_mod]
  have : n / 2 ^ j % 2 < 2 := Nat.mod_lt _ (by decide)
  by_cases c : n / 2 ^ j % 2 = 1
  · simp [c]
  · have : n / 2 ^ j % 2 = 0 := by omega
    simp [this]
theorem or_byte (y : Int) (c : Bool) (t : Nat) (ht : t < 8) (h0 : 0 ≤ y) (h1 : y < 256) :
    ∃ z : Nat, bits .or .u8 y ((if c then (1 : Int) else 0) % 256 * 2 ^ t % 256) = z ∧ z < 256 ∧ ∀ s, z.testBit s = (y.toNat.testBit s || (c && decide (s = t))) := by
  obtain ⟨n, rfl⟩ := Int.eq_ofNat_of_zero_le h0
  have hn : n < 2 ^ 8 := by omega
  have hp : 2 ^ t < 2 ^ 8 := Nat.pow_lt_pow_right (by decide) ht
  have e : ((if c then (1 : Int) else 0) % 256 * 2 ^ t % 256) = (((if c then 2 ^ t else 0) : Nat) : Int) := by
    cases c
    · simp
    · have : ((2 : Int) ^ t) = ((2 ^ t : Nat) : Int) := by simp
      simp only [if_true]
      rw [this]
      have : 2 ^ t < 256 := hp
      rw [show (1 : Int) % 256 = 1 from rfl, Int.one_mul]
      exact Int.emod_eq_of_lt (Int.natCast_nonneg _) (Int.ofNat_lt.mpr this)
  have hm : (if c then 2 ^ t else 0) < 2 ^ 8 := by split <;> omega
  rw [e, (bits_nat .u8 8 (by decide) wraps_u8 n _ hn hm).2]
  refine ⟨_, rfl, ?_, ?_⟩
  · exact Nat.or_lt_two_pow hn hm
  · intro s
    rw [Nat.testBit_or]
    simp only [Int.toNat_natCast]
    cases c
    · simp
    · simp [Nat.testBit_two_pow, eq_comm]
theorem orAt_length (b : List Int) (p : Nat) (x : Int) (j : Nat) : (orAt b p x j).length = b.length := by simp [orAt]
theorem orAt_spec {b : List Int} (hb : Bytes b) (p : Nat) (x : Int) (j : Nat) (h0 : 0 ≤ x) (h1 : x < 2 ^ 63) (hp : p / 8 < b.length) :
    Bytes (orAt b p x j) ∧ ∀ q, bitAt (orAt b p x j) q = (bitAt b q || (decide (q = p) && x.toNat.testBit j)) := by
  unfold orAt
  rw [bit_lsb x j h0 h1]
  obtain ⟨hy0, hy1⟩ := hb.rd_ ((p / 8 : Nat) : Int)
  obtain ⟨z, ez, hz, hs⟩ := or_byte (rd b ((p / 8 : Nat) : Int)) (x.toNat.testBit j) (p % 8) (Nat.mod_lt _ (by decide)) hy0 hy1
  rw [ez]
  constructor
  · intro y hy
    rcases List.mem_or_eq_of_mem_set hy with h | rfl
    · exact hb y h
    · omega
  · intro q
    unfold bitAt
    by_cases e : q / 8 = p / 8
    · have : rd (b.set (p / 8) (z : Int)) ((q / 8 : Nat) : Int) = z := by
        rw [rd_nat, e, List.getD_eq_getElem?_getD, List.getElem?_set_self hp]; rfl
      rw [this, Int.toNat_natCast, hs, e]
      have : (q % 8 = p % 8) ↔ q = p := by omega
      simp only [this]
      rw [Bool.and_comm]
    · have : rd (b.set (p / 8) (z : Int)) ((q / 8 : Nat) : Int) = rd b ((q / 8 : Nat) : Int) := by
        rw [rd_nat, rd_nat, List.getD_eq_getElem?_getD, List.getElem?_set_ne (by omega), ← List.getD_eq_getElem?_getD]
      rw [this]
      have : ¬ q = p := fun h => e (by rw [h])
      simp [this]

theorem inner_length (wd : Nat) (x : Int) (k : Nat) (b : List Int) (j : Nat) : (inner wd x k b j).length = b.length := by
  induction j with
  | zero => rfl
  | succ j ih => rw [inner, orAt_length, ih]
theorem outer_length (l : List Int) (wd : Nat) (b : List Int) (k : Nat) : (outer l wd b k).length = b.length := by
  induction k with
  | zero => rfl
  | succ j ih => rw [outer, inner_length, ih]
theorem zeroBs_length (n : Nat) : (zeroBs n).length = (n + 7) / 8 := by simp [zeroBs]
theorem packed_length (l : List Int) (wd : Nat) : (packed l wd).length = (l.length * wd + 7) / 8 := by rw [packed, outer_length, zeroBs_length]
theorem inner_spec {wd : Nat} {x : Int} (h0 : 0 ≤ x) (h1 : x < 2 ^ 63) {k : Nat} {b : List Int} (hb : Bytes b) (hlen : (k + 1) * wd ≤ 8 * b.length) (j : Nat) (hj : j ≤ wd) :
    Bytes (inner wd x k b j) ∧ ∀ q, bitAt (inner wd x k b j) q = (bitAt b q || (decide (k * wd ≤ q ∧ q < k * wd + j) && x.toNat.testBit (q - k * wd))) := by
  induction j with
  | zero => exact ⟨hb, fun q => by simp [inner]; omega⟩
  | succ j ih =>
    obtain ⟨i1, i2⟩ := ih (by omega)
    rw [Nat.add_mul] at hlen
    have hl := inner_length wd x k b j
    obtain ⟨o1, o2⟩ := orAt_spec i1 (k * wd + j) x j h0 h1 (by omega)
    refine ⟨o1, fun q => ?_⟩
    rw [inner, o2, i2, Bool.or_assoc]
    congr 1
    by_cases e : q = k * wd + j
    · subst e
      have : k * wd + j - k * wd = j := by omega
      simp [this]
    · have : (k * wd ≤ q ∧ q < k * wd + (j + 1)) ↔ (k * wd ≤ q ∧ q < k * wd + j) := by omega
      simp only [this]
      simp [e]
def AllOk (l : List Int) (wd : Nat) : Prop := ∀ k, k < l.length → 0 ≤ rd l (k : Int) ∧ rd l (k : Int) < 2 ^ wd
instance (l : List Int) (wd : Nat) : Decidable (AllOk l wd) := inferInstanceAs (Decidable (∀ k, k < l.length → 0 ≤ rd l (k : Int) ∧ rd l (k : Int) < 2 ^ wd))
/-- May a row be packed so? -/
def May (l : List Int) (wd : Int) : Prop := 0 ≤ wd ∧ wd ≤ 20 ∧ l.length ≤ 1000 ∧ AllOk l wd.toNat
instance (l : List Int) (wd : Int) : Decidable (May l wd) := inferInstanceAs (Decidable (_ ∧ _))
theorem AllOk.lt63 {l : List Int} {wd : Nat} (h : AllOk l wd) (hw : wd ≤ 20) (k : Nat) (hk : k < l.length) : rd l (k : Int) < 2 ^ 63 := by
  have h1 := (h k hk).2
  have h2 : (2 : Int) ^ wd ≤ 2 ^ 63 := by
    have := Nat.pow_le_pow_right (n := 2) (by decide) (show wd ≤ 63 by omega)
    exact_mod_cast this
  omega
theorem outer_spec {l : List Int} {wd : Nat} (hw : wd ≤ 20) (hok : AllOk l wd) {b : List Int} (hb : Bytes b) (hlen : l.length * wd ≤ 8 * b.length) (k : Nat) (hk : k ≤ l.length) :
    Bytes (outer l wd b k) ∧ ∀ q, bitAt (outer l wd b k) q = (bitAt b q || (decide (q < k * wd) && (rd l ((q / wd : Nat) : Int)).toNat.testBit (q % wd))) := by
  induction k with
  | zero => exact ⟨hb, fun q => by simp [outer]⟩
  | succ k ih =>
    obtain ⟨i1, i2⟩ := ih (by omega)
    have h2 : (k + 1) * wd ≤ l.length * wd := Nat.mul_le_mul_right _ hk
    obtain ⟨o1, o2⟩ := inner_spec (hok k (by omega)).1 (hok.lt63 hw k (by omega)) i1 (k := k) (by rw [outer_length]; omega) wd (Nat.le_refl _)
    refine ⟨o1, fun q => ?_⟩
    rw [outer, o2, i2, Bool.or_assoc]
    congr 1
    rw [Nat.add_mul, Nat.one_mul]
    by_cases c1 : q < k * wd
    · have c3 : ¬ (k * wd ≤ q ∧ q < k * wd + wd) := by omega
      have c4 : q < k * wd + wd := by omega
      rw [decide_eq_true c1, decide_eq_false c3, decide_eq_true c4]; simp
    · by_cases c2 : q < k * wd + wd
      · have hd : q / wd = k := by
          have : q = (q - k * wd) + k * wd := by omega
          rw [this, Nat.add_mul_div_right _ _ (by omega), Nat.div_eq_of_lt (by omega)]; omega
        have hm : q % wd = q - k * wd := by
          have := Nat.div_add_mod q wd
          rw [hd, Nat.mul_comm] at this; omega
        have : k * wd ≤ q := by omega
        simp [hd, hm, c1, c2, this]
      · simp [c1, c2]
theorem bytes_start (n : Nat) : Bytes (zeroBs n) := fun x hx => by
  have := List.eq_of_mem_replicate hx
  omega
theorem bit_start (n q : Nat) : bitAt (zeroBs n) q = false := by
  unfold bitAt
  have : rd (zeroBs n) ((q / 8 : Nat) : Int) = 0 := by
    rw [rd_nat, List.getD_eq_getElem?_getD, zeroBs, List.getElem?_replicate]
    split <;> rfl
  rw [this]; simp
theorem packed_spec {l : List Int} {wd : Nat} (hw : wd ≤ 20) (hok : AllOk l wd) :
    Bytes (packed l wd) ∧ ∀ q, bitAt (packed l wd) q = (decide (q < l.length * wd) && (rd l ((q / wd : Nat) : Int)).toNat.testBit (q % wd)) := by
  obtain ⟨h1, h2⟩ := outer_spec hw hok (bytes_start (l.length * wd)) (by rw [zeroBs_length]; omega) l.length (Nat.le_refl _)
  exact ⟨h1, fun q => by rw [packed, h2, bit_start, Bool.false_or]⟩
/-- Bytes are one if their bits are. -/
theorem bytes_ext {a b : List Int} (ha : Bytes a) (hb : Bytes b) (hl : a.length = b.length) (h : ∀ q, q < 8 * a.length → bitAt a q = bitAt b q) : a = b := by
  apply List.ext_getElem hl
  intro i h1 h2
  have ea : rd a (i : Int) = a[i] := by rw [rd_nat]; simp [h1]
  have eb : rd b (i : Int) = b[i] := by rw [rd_nat]; simp [h2]
  obtain ⟨a0, a1⟩ := ha.rd_ i
  obtain ⟨b0, b1⟩ := hb.rd_ i
  have : (rd a (i : Int)).toNat = (rd b (i : Int)).toNat := by
    apply Nat.eq_of_testBit_eq
    intro t
    by_cases ht : t < 8
    · have := h (8 * i + t) (by omega)
      unfold bitAt at this
      rw [show (8 * i + t) / 8 = i by omega, show (8 * i + t) % 8 = t by omega] at this
      exact this
    · have hp : 2 ^ 8 ≤ 2 ^ t := Nat.pow_le_pow_right (by decide) (by omega)
      rw [Nat.testBit_lt_two_pow (by omega), Nat.testBit_lt_two_pow (by omega)]
  omega

/-- The number of k bits, the lowest first. -/
def bitsVal (f : Nat → Bool) : Nat → Nat
  | 0 => 0
  | k + 1 => bitsVal f k + (if f k then 2 ^ k else 0)
theorem bitsVal_lt (f : Nat → Bool) (k : Nat) : bitsVal f k < 2 ^ k := by
  induction k with
  | zero => simp [bitsVal]
  | succ k ih => rw [bitsVal, Nat.pow_succ]; split <;> omega
theorem bitsVal_bit (f : Nat → Bool) (k s : Nat) : (bitsVal f k).testBit s = (decide (s < k) && f s) := by
  induction k with
  | zero => simp [bitsVal]
  | succ k ih =>
    have hlt := bitsVal_lt f k
    rw [bitsVal]
    cases hf : f k
    · simp only [Bool.false_eq_true, if_false, Nat.add_zero, ih]
      by_cases c : s = k
      · subst c; simp [hf]
      · have : s < k + 1 ↔ s < k := by omega
        simp [this]
    · simp only [if_true]
      have e := Nat.two_pow_add_eq_or_of_lt hlt 1
      rw [Nat.mul_one] at e
      rw [Nat.add_comm, e, Nat.testBit_or, Nat.testBit_two_pow, ih]
      by_cases c : k = s
      · subst c; simp [hf]
      · have : s < k + 1 ↔ s < k := by omega
        simp [this, c]
theorem bitsVal_or (f : Nat → Bool) (k : Nat) : bitsVal f (k + 1) = bitsVal f k ||| (if f k then 2 ^ k else 0) := by
  apply Nat.eq_of_testBit_eq
  intro s
  rw [Nat.testBit_or, bitsVal_bit, bitsVal_bit]
  by_cases c : s = k
  · subst c; cases hf : f s <;> simp
  · have : s < k + 1 ↔ s < k := by omega
    have c' : ¬ k = s := fun h => c h.symm
    cases hf : f k <;> simp [this, Nat.testBit_two_pow, c']
/-- The highest one goes ahead. -/
theorem bitsVal_low (f : Nat → Bool) (k : Nat) : bitsVal f (k + 1) = 2 * bitsVal (fun t => f (t + 1)) k + (if f 0 then 1 else 0) := by
  induction k with
  | zero => simp [bitsVal]
  | succ k ih =>
    rw [bitsVal, ih, bitsVal, Nat.pow_succ]
    split <;> split <;> omega
theorem bitsVal_eq (n k : Nat) (h : n < 2 ^ k) : bitsVal (fun t => n.testBit t) k = n := by
  apply Nat.eq_of_testBit_eq
  intro s
  rw [bitsVal_bit]
  by_cases c : s < k
  · simp [c]
  · rw [Nat.testBit_lt_two_pow (Nat.lt_of_lt_of_le h (Nat.pow_le_pow_right (by decide) (by omega)))]; simp
theorem bitsVal_congr {f g : Nat → Bool} {k : Nat} (h : ∀ t, t < k → f t = g t) : bitsVal f k = bitsVal g k := by
  induction k with
  | zero => rfl
  | succ k ih => rw [bitsVal, bitsVal, ih (fun t ht => h t (by omega)), h k (by omega)]

/-- The number at place i. -/
def at_ (b : List Int) (wd i : Nat) : Nat := bitsVal (fun t => bitAt b (i * wd + t)) wd
def unpacked (b : List Int) (n wd : Nat) : List Int := (List.range n).map fun i => (at_ b wd i : Int)
theorem unpacked_length (b : List Int) (n wd : Nat) : (unpacked b n wd).length = n := by simp [unpacked]
theorem rd_unpacked (b : List Int) (n wd i : Nat) (h : i < n) : rd (unpacked b n wd) (i : Int) = at_ b wd i := by
  rw [rd_nat, unpacked]; simp [h]
theorem unpacked_ok (b : List Int) (n wd : Nat) : AllOk (unpacked b n wd) wd := by
  intro k hk
  rw [unpacked_length] at hk
  rw [rd_unpacked b n wd k hk]
  have := bitsVal_lt (fun t => bitAt b (k * wd + t)) wd
  refine ⟨Int.natCast_nonneg _, ?_⟩
  unfold at_
  exact_mod_cast this
theorem list_rd_ext {a b : List Int} (hl : a.length = b.length) (h : ∀ i : Nat, i < a.length → rd a i = rd b i) : a = b := by
  apply List.ext_getElem hl
  intro i h1 h2
  have := h i h1
  rw [rd_nat, rd_nat] at this
  simpa [h1, h2] using this
theorem unpacked_packed {l : List Int} {wd : Nat} (hw : wd ≤ 20) (hok : AllOk l wd) : unpacked (packed l wd) l.length wd = l := by
  apply list_rd_ext (unpacked_length _ _ _)
  intro i hi
  rw [unpacked_length] at hi
  rw [rd_unpacked _ _ _ _ hi]
  obtain ⟨h0, h1⟩ := hok i hi
  obtain ⟨n, hn⟩ := Int.eq_ofNat_of_zero_le h0
  rw [hn] at h1 ⊢
  have h2 : n < 2 ^ wd := by exact_mod_cast h1
  have : at_ (packed l wd) wd i = n := by
    unfold at_
    rw [← bitsVal_eq n wd h2]
    apply bitsVal_congr
    intro t ht
    rw [(packed_spec hw hok).2]
    have hm : (i + 1) * wd ≤ l.length * wd := Nat.mul_le_mul_right _ hi
    rw [Nat.add_mul] at hm
    have e1 : (i * wd + t) / wd = i := by
      rw [Nat.add_comm, Nat.add_mul_div_right _ _ (by omega), Nat.div_eq_of_lt ht]; omega
    have e2 : (i * wd + t) % wd = t := by
      rw [Nat.add_comm, Nat.add_mul_mod_self_right, Nat.mod_eq_of_lt ht]
    rw [e1, e2, hn]
    simp only [Int.toNat_natCast]
    have : i * wd + t < l.length * wd := by omega
    simp [this]
  rw [this]
theorem packed_unpacked {b : List Int} {n wd : Nat} (hw : wd ≤ 20) (hb : Bytes b) (hl : b.length = (n * wd + 7) / 8) :
    packed (unpacked b n wd) wd = b ↔ ∀ q, n * wd ≤ q → q < 8 * b.length → bitAt b q = false := by
  have hs := (packed_spec hw (unpacked_ok b n wd)).2
  have hpl := packed_length (unpacked b n wd) wd
  rw [unpacked_length] at hs hpl
  have key : ∀ q, q < n * wd → bitAt (packed (unpacked b n wd) wd) q = bitAt b q := by
    intro q hq
    rw [hs]
    have hw0 : 0 < wd := by
      rcases Nat.eq_zero_or_pos wd with h | h
      · subst h; omega
      · exact h
    have hd : q / wd < n := by rw [Nat.div_lt_iff_lt_mul hw0]; exact hq
    rw [rd_unpacked _ _ _ _ hd, Int.toNat_natCast]
    unfold at_
    rw [bitsVal_bit]
    have h1 : q % wd < wd := Nat.mod_lt _ hw0
    have h2 : q / wd * wd + q % wd = q := by rw [Nat.mul_comm]; exact Nat.div_add_mod q wd
    simp [hq, h1, h2]
  constructor
  · intro h q h1 h2
    rw [← h, hs]
    have : ¬ q < n * wd := by omega
    simp [this]
  · intro h
    apply bytes_ext (packed_spec hw (unpacked_ok b n wd)).1 hb (by omega)
    intro q hq
    by_cases c : q < n * wd
    · exact key q c
    · rw [hs, h q (by omega) (by omega)]
      simp [c]
def bl (n : Int) : Int := if n ≤ 0 then 0 else (Nat.log2 n.toNat : Int) + 1
theorem bl_le {x : Int} (h0 : 0 ≤ x) (wd : Nat) : bl x ≤ wd ↔ x < 2 ^ wd := by
  obtain ⟨n, rfl⟩ := Int.eq_ofNat_of_zero_le h0
  unfold bl
  rcases Nat.eq_zero_or_pos n with rfl | hn
  · simp
    exact_mod_cast Nat.two_pow_pos wd
  · have h1 : ¬ (n : Int) ≤ 0 := by omega
    rw [if_neg h1, Int.toNat_natCast]
    have := Nat.log2_lt (n := n) (k := wd) (by omega)
    have e : (n : Int) < 2 ^ wd ↔ n < 2 ^ wd := by exact_mod_cast Iff.rfl
    rw [e, ← this]
    omega
/-- What Pack answers. -/
def packR (l : List Int) (wd : Int) : List Int × Int := if May l wd then (packed l wd.toNat, 0) else ([], 1)
/-- What Unpack answers. -/
def unpackR (b : List Int) (n wd : Int) : List Int × Int :=
  if 0 ≤ wd ∧ wd ≤ 20 ∧ 0 ≤ n ∧ n ≤ 1000 then
    if (b.length : Int) = (n * wd + 7) / 8 then
      if packed (unpacked b n.toNat wd.toNat) wd.toNat = b then (unpacked b n.toNat wd.toNat, 0) else ([], 2)
    else ([], 2)
  else ([], 1)
theorem bit_u8 (y : Int) (t : Nat) (h0 : 0 ≤ y) (h1 : y < 256) : bits .and .u8 (y / 2 ^ t) 1 = if y.toNat.testBit t then 1 else 0 := by
  obtain ⟨n, rfl⟩ := Int.eq_ofNat_of_zero_le h0
  have e : ((n : Int) / 2 ^ t) = ((n / 2 ^ t : Nat) : Int) := by simp
  have hlt : n / 2 ^ t < 2 ^ 8 := Nat.lt_of_le_of_lt (Nat.div_le_self _ _) (by omega)
  have := (bits_nat .u8 8 (by decide) wraps_u8 (n / 2 ^ t) 1 hlt (by decide)).1
  rw [e]
  rw [show ((1 : Nat) : Int) = 1 from rfl] at this
  rw [this]
  have h2 : Int.toNat (n : Int) = n := by simp
  rw [h2, Nat.testBit_eq_decide_div_mod_eq, Nat.and_one_is_mod]
  have : n / 2 ^ t % 2 < 2 := Nat.mod_lt _ (by decide)
  by_cases c : n / 2 ^ t % 2 = 1
  · simp [c]
  · have : n / 2 ^ t % 2 = 0 := by omega
    simp [this]
theorem pow_small {j : Nat} (hj : j ≤ 62) : (2 : Int) ^ j = ((2 ^ j : Nat) : Int) ∧ 2 ^ j < 9223372036854775808 := by
  refine ⟨by simp, ?_⟩
  have := Nat.pow_le_pow_right (n := 2) (by decide) hj
  exact Nat.lt_of_le_of_lt this (by decide)
theorem wrap64_nat {n : Nat} (h : n < 9223372036854775808) : wrap64 (n : Int) = n := by unfold wrap64; omega
/-- One more bit of a number. -/
theorem or_bit {b : List Int} (hb : Bytes b) (p m j : Nat) (hj : j ≤ 62) (hm : m < 2 ^ j) :
    bits .or .i64 (m : Int) (wrap64 (wrap64 (bits .and .u8 (rd b ((p / 8 : Nat) : Int) / 2 ^ (p % 8)) 1) * 2 ^ j)) = ((m + (if bitAt b p then 2 ^ j else 0) : Nat) : Int) := by
  obtain ⟨h0, h1⟩ := hb.rd_ ((p / 8 : Nat) : Int)
  rw [bit_u8 _ _ h0 h1]
  obtain ⟨e1, e2⟩ := pow_small hj
  rw [e1]
  unfold bitAt
  have key : (if (rd b ((p / 8 : Nat) : Int)).toNat.testBit (p % 8) = true then (1 : Int) else 0) = (((if (rd b ((p / 8 : Nat) : Int)).toNat.testBit (p % 8) = true then 1 else 0) : Nat) : Int) := by split <;> rfl
  rw [key]
  generalize (rd b ((p / 8 : Nat) : Int)).toNat.testBit (p % 8) = t
  have e3 : (((if t = true then 1 else 0) : Nat) : Int) * ((2 ^ j : Nat) : Int) = (((if t = true then 2 ^ j else 0) : Nat) : Int) := by
    cases t <;> simp
  have e4 : wrap64 (((if t = true then 1 else 0) : Nat) : Int) = (((if t = true then 1 else 0) : Nat) : Int) := wrap64_nat (by split <;> omega)
  rw [e4, e3, wrap64_nat (by split <;> omega)]
  rw [(bits_nat .i64 63 (by decide) wraps_i64_ m _ (by omega) (by split <;> omega)).2]
  congr 1
  cases t
  · simp
  · have e := Nat.two_pow_add_eq_or_of_lt hm 1
    rw [Nat.mul_one] at e
    simp only [if_true]
    rw [Nat.or_comm, ← e, Nat.add_comm]
/-- The next lower bit. -/
theorem low_bit {b : List Int} (hb : Bytes b) (p m : Nat) (hm : m < 4611686018427387904) :
    bits .or .i64 ((m : Int) * 2) (wrap64 (bits .and .u8 (rd b ((p / 8 : Nat) : Int) / 2 ^ (p % 8)) 1)) = ((2 * m + (if bitAt b p then 1 else 0) : Nat) : Int) := by
  obtain ⟨h0, h1⟩ := hb.rd_ ((p / 8 : Nat) : Int)
  rw [bit_u8 _ _ h0 h1]
  unfold bitAt
  have key : (if (rd b ((p / 8 : Nat) : Int)).toNat.testBit (p % 8) = true then (1 : Int) else 0) = (((if (rd b ((p / 8 : Nat) : Int)).toNat.testBit (p % 8) = true then 1 else 0) : Nat) : Int) := by split <;> rfl
  rw [key]
  generalize (rd b ((p / 8 : Nat) : Int)).toNat.testBit (p % 8) = t
  have e4 : wrap64 (((if t = true then 1 else 0) : Nat) : Int) = (((if t = true then 1 else 0) : Nat) : Int) := wrap64_nat (by split <;> omega)
  rw [e4]
  have e5 : (m : Int) * 2 = ((2 * m : Nat) : Int) := by omega
  rw [e5, (bits_nat .i64 63 (by decide) wraps_i64_ (2 * m) _ (by omega) (by split <;> omega)).2]
  congr 1
  have hlt : (if t = true then 1 else 0) < 2 ^ 1 := by split <;> omega
  have e := Nat.two_pow_add_eq_or_of_lt hlt m
  rw [show 2 ^ 1 * m = 2 * m by omega] at e
  rw [e]
theorem bytes_inj {a b : List Int} (ha : Bytes a) (hb : Bytes b) : (Lib.bytesOf a == Lib.bytesOf b) = decide (a = b) := by
  have key : Lib.bytesOf a = Lib.bytesOf b ↔ a = b := by
    constructor
    · intro h
      unfold Lib.bytesOf at h
      induction a generalizing b with
      | nil => cases b with
        | nil => rfl
        | cons y b => simp at h
      | cons x a ih => cases b with
        | nil => simp at h
        | cons y b =>
          simp only [List.map_cons, List.cons.injEq] at h
          obtain ⟨h1, h2⟩ := h
          have hx := ha x List.mem_cons_self
          have hy := hb y List.mem_cons_self
          have : x = y := by
            have := congrArg UInt8.toNat h1
            simp only [UInt8.toNat_ofNat'] at this
            omega
          subst this
          rw [ih (fun z hz => ha z (List.mem_cons_of_mem _ hz)) (fun z hz => hb z (List.mem_cons_of_mem _ hz)) h2]
    · rintro rfl; rfl
  by_cases c : a = b
  · subst c; simp
  · have : ¬ Lib.bytesOf a = Lib.bytesOf b := fun h => c (key.1 h)
    simp [c, this]
theorem unpackR_back {l : List Int} {wd : Nat} (h : May l wd) : unpackR (packed l wd) l.length wd = (l, 0) := by
  obtain ⟨h1, h2, h3, h4⟩ := h
  have hw : wd ≤ 20 := by omega
  have hok : AllOk l wd := by simpa using h4
  have e := unpacked_packed hw hok
  unfold unpackR
  rw [if_pos ⟨h1, h2, by omega, by omega⟩, if_pos (by rw [packed_length, ← Int.natCast_mul]; omega)]
  simp only [Int.toNat_natCast]
  rw [e, if_pos rfl]
theorem unpackR_len {b : List Int} {n wd : Nat} (hn : n ≤ 1000) (hw : wd ≤ 20) (h : ¬ b.length = (n * wd + 7) / 8) : unpackR b n wd = ([], 2) := by
  unfold unpackR
  rw [if_pos ⟨by omega, by omega, by omega, by omega⟩, if_neg (by rw [← Int.natCast_mul]; omega)]
theorem packR_may {l : List Int} {wd : Nat} (h : May l wd) : packR l wd = (packed l wd, 0) := by
  unfold packR; rw [if_pos h]; rfl
theorem may_bytes {l : List Int} {wd : Nat} (h : May l wd) : Bytes (packed l wd) := by
  obtain ⟨h1, h2, h3, h4⟩ := h
  exact (packed_spec (by omega) (by simpa using h4)).1
/-- A bit turned. -/
theorem xor_byte {b : List Int} (hb : Bytes b) (p : Nat) (hp : p / 8 < b.length) :
    Bytes (b.set (p / 8) (bits .xor .u8 (rd b ((p / 8 : Nat) : Int)) (2 ^ (p % 8) % 256))) ∧ ∀ q, bitAt (b.set (p / 8) (bits .xor .u8 (rd b ((p / 8 : Nat) : Int)) (2 ^ (p % 8) % 256))) q = (bitAt b q ^^ decide (q = p)) := by
  obtain ⟨h0, h1⟩ := hb.rd_ ((p / 8 : Nat) : Int)
  obtain ⟨n, hn⟩ := Int.eq_ofNat_of_zero_le h0
  have hn8 : n < 2 ^ 8 := by omega
  have hpow : 2 ^ (p % 8) < 2 ^ 8 := Nat.pow_lt_pow_right (by decide) (Nat.mod_lt _ (by decide))
  have e : ((2 : Int) ^ (p % 8) % 256) = ((2 ^ (p % 8) : Nat) : Int) := by
    have : ((2 : Int) ^ (p % 8)) = ((2 ^ (p % 8) : Nat) : Int) := by simp
    rw [this]
    exact Int.emod_eq_of_lt (Int.natCast_nonneg _) (Int.ofNat_lt.mpr hpow)
  have ex : bits .xor .u8 (rd b ((p / 8 : Nat) : Int)) (2 ^ (p % 8) % 256) = ((n ^^^ 2 ^ (p % 8) : Nat) : Int) := by
    rw [e, hn]
    simp only [bits, BitVec.ofInt_natCast, BitVec.toNat_xor, BitVec.toNat_ofNat]
    have a1 : n % 2 ^ IntKind.u8.bits = n := Nat.mod_eq_of_lt hn8
    have a2 : 2 ^ (p % 8) % 2 ^ IntKind.u8.bits = 2 ^ (p % 8) := Nat.mod_eq_of_lt hpow
    rw [a1, a2]
    have : n ^^^ 2 ^ (p % 8) < 2 ^ 8 := Nat.xor_lt_two_pow hn8 hpow
    exact wraps_u8 _ (Int.natCast_nonneg _) (Int.ofNat_lt.mpr this)
  have hlt : n ^^^ 2 ^ (p % 8) < 2 ^ 8 := Nat.xor_lt_two_pow hn8 hpow
  rw [ex]
  constructor
  · intro y hy
    rcases List.mem_or_eq_of_mem_set hy with h | rfl
    · exact hb y h
    · omega
  · intro q
    unfold bitAt
    by_cases e : q / 8 = p / 8
    · have : rd (b.set (p / 8) ((n ^^^ 2 ^ (p % 8) : Nat) : Int)) ((q / 8 : Nat) : Int) = ((n ^^^ 2 ^ (p % 8) : Nat) : Int) := by
        rw [rd_nat, e, List.getD_eq_getElem?_getD, List.getElem?_set_self hp]; rfl
      rw [this, Int.toNat_natCast, e, hn, Int.toNat_natCast, Nat.testBit_xor, Nat.testBit_two_pow]
      have : (p % 8 = q % 8) ↔ q = p := by omega
      simp only [this]
    · have : rd (b.set (p / 8) ((n ^^^ 2 ^ (p % 8) : Nat) : Int)) ((q / 8 : Nat) : Int) = rd b ((q / 8 : Nat) : Int) := by
        rw [rd_nat, rd_nat, List.getD_eq_getElem?_getD, List.getElem?_set_ne (by omega), ← List.getD_eq_getElem?_getD]
      rw [this]
      have : ¬ q = p := fun h => e (by rw [h])
      simp [this]
theorem and_low (x : Int) : ∃ m : Nat, bits .and .i64 x 65535 = m ∧ m ≤ 65535 := by
  refine ⟨(BitVec.ofInt 64 x &&& BitVec.ofInt 64 65535).toNat, ?_, ?_⟩
  · have h : (BitVec.ofInt 64 x &&& BitVec.ofInt 64 65535).toNat ≤ 65535 := by
      rw [BitVec.toNat_and]
      exact Nat.le_trans Nat.and_le_right (by decide)
    show IntKind.i64.wrap _ = _
    exact wraps_i64_ _ (Int.natCast_nonneg _) (by show ((BitVec.ofInt 64 x &&& BitVec.ofInt 64 65535).toNat : Int) < 2 ^ 63; omega)
  · rw [BitVec.toNat_and]
    exact Nat.le_trans Nat.and_le_right (by decide)
theorem xor_num (x t : Nat) (hx : x < 2 ^ 62) (ht : t < 62) : bits .xor .i64 (x : Int) (wrap64 (2 ^ t)) = ((x ^^^ 2 ^ t : Nat) : Int) := by
  have hpow : 2 ^ t < 2 ^ 62 := Nat.pow_lt_pow_right (by decide) ht
  have e : ((2 : Int) ^ t) = ((2 ^ t : Nat) : Int) := by simp
  rw [e, wrap64_nat (by omega)]
  simp only [bits, BitVec.ofInt_natCast, BitVec.toNat_xor, BitVec.toNat_ofNat]
  have a1 : x % 2 ^ IntKind.i64.bits = x := Nat.mod_eq_of_lt (Nat.lt_of_lt_of_le hx (by decide))
  have a2 : 2 ^ t % 2 ^ IntKind.i64.bits = 2 ^ t := Nat.mod_eq_of_lt (Nat.lt_of_lt_of_le hpow (by decide))
  rw [a1, a2]
  have : x ^^^ 2 ^ t < 2 ^ 62 := Nat.xor_lt_two_pow hx hpow
  exact wraps_i64_ _ (Int.natCast_nonneg _) (by omega)
theorem str_eq {a b : List Int} (ha : Bytes a) (hb : Bytes b) : ((strOfNums a).toList == (strOfNums b).toList) = decide (a = b) := by
  rw [Lib.strOfNums_toList, Lib.strOfNums_toList]
  exact bytes_inj ha hb
end Go.Proofs.Ytdijaobhijmknaa.PM
