/- Plain: a text of two runes. -/
import Derived.Test.YtmenjcjpihpjjaaDoorTmT
import Derived.Laws.Cover4
import Derived.Lib.TrimUEq
import Derived.Lib.ValidLaws
set_option linter.unusedSimpArgs false
set_option linter.unusedVariables false
namespace Go.Proofs.YtmenjcjpihpjjaaDoor.Tm
open Go Go.RowKit Go.Shelf Go.Proofs.YtmenjcjpihpjjaaDoorW.PrintWords

theorem dec2 (s : ByteArray) (c : Nat) (h0 : (s.get! 1).toNat = 192 + c / 64) (h1 : (s.get! 2).toNat = 128 + c % 64) (hs : 2 < s.size) (hc : 128 ≤ c) (hc2 : c < 2048) : Utf8.decode s 1 = (c, 2) := by
  unfold Utf8.decode
  simp only [Nat.add_zero, Nat.reduceAdd, h0, h1]
  rw [if_neg (by omega), if_pos (by simp only [Bool.and_eq_true, beq_iff_eq, decide_eq_true_eq]; omega), if_pos (by omega)]
  exact Prod.ext (by simp only; omega) rfl
theorem dec3 (s : ByteArray) (c : Nat) (h0 : (s.get! 1).toNat = 224 + c / 4096) (h1 : (s.get! 2).toNat = 128 + c / 64 % 64) (h2 : (s.get! 3).toNat = 128 + c % 64) (hs : 3 < s.size) (hc : 2048 ≤ c) (hc2 : c < 65536) (hv : Utf8.valid (c : Int) = true) : Utf8.decode s 1 = (c, 3) := by
  have he : (224 + c / 4096) % 16 * 4096 + (128 + c / 64 % 64) % 64 * 64 + (128 + c % 64) % 64 = c := by omega
  unfold Utf8.decode
  simp only [Nat.add_zero, Nat.reduceAdd, h0, h1, h2, he, hv]
  rw [if_neg (by omega), if_neg (by simp only [Bool.and_eq_true, beq_iff_eq, decide_eq_true_eq]; omega), if_pos (by simp only [Bool.and_eq_true, beq_iff_eq, decide_eq_true_eq]; omega), if_pos (by simp; omega)]
theorem dec4 (s : ByteArray) (c : Nat) (h0 : (s.get! 1).toNat = 240 + c / 262144) (h1 : (s.get! 2).toNat = 128 + c / 4096 % 64) (h2 : (s.get! 3).toNat = 128 + c / 64 % 64) (h3 : (s.get! 4).toNat = 128 + c % 64) (hs : 4 < s.size) (hc : 65536 ≤ c) (hc2 : c < 1114112) (hv : Utf8.valid (c : Int) = true) : Utf8.decode s 1 = (c, 4) := by
  have he : (240 + c / 262144) % 8 * 262144 + (128 + c / 4096 % 64) % 64 * 4096 + (128 + c / 64 % 64) % 64 * 64 + (128 + c % 64) % 64 = c := by omega
  unfold Utf8.decode
  simp only [Nat.add_zero, Nat.reduceAdd, h0, h1, h2, h3, he, hv]
  rw [if_neg (by omega), if_neg (by simp only [Bool.and_eq_true, beq_iff_eq, decide_eq_true_eq]; omega), if_neg (by simp only [Bool.and_eq_true, beq_iff_eq, decide_eq_true_eq]; omega), if_pos (by simp only [Bool.and_eq_true, beq_iff_eq, decide_eq_true_eq]; omega), if_pos (by simp; omega)]
theorem runesF_end (s : ByteArray) (p : Nat) (h : s.size ≤ p) : ∀ f, runesF s f p = []
  | 0 => rfl
  | f + 1 => by unfold runesF; rw [if_neg (by omega)]
theorem two_of (s : ByteArray) (c m : Nat) (hm : 1 ≤ m) (hs : s.size = 1 + m) (h0 : byteAt s 0 = 97) (hd : Utf8.decode s 1 = (c, m)) (hg : ¬ (c = 65533 ∧ m = 1)) : validB s = true ∧ runes s = [97, c] := by
  have hd0 : Utf8.decode s 0 = (97, 1) := by rw [decode_low s 0 (by omega), h0]
  have hl : s.data.toList.length = 1 + m := by rw [size_list, hs]
  constructor
  · unfold validB
    have e0 := Lib.decodeL_drop s 0
    have e1 := Lib.decodeL_drop s 1
    rw [List.drop_zero, hd0] at e0
    rw [hd] at e1
    rw [Lib.validD_step _ (by intro e; rw [e] at hl; simp at hl; omega), e0, if_neg (by simp)]
    show Lib.validD (List.drop 1 s.data.toList) = true
    rw [Lib.validD_step _ (by intro e; have := congrArg List.length e; simp only [List.length_drop, List.length_nil] at this; omega), e1, if_neg hg, List.drop_drop, List.drop_eq_nil_of_le (by simp only; omega)]
    rfl
  · unfold runes
    obtain ⟨f, rfl⟩ : ∃ f, m = f + 1 := ⟨m - 1, by omega⟩
    rw [show s.size = f + 1 + 1 by omega]
    unfold runesF
    rw [if_pos (by omega), hd0]
    unfold runesF
    rw [if_pos (by simp only; omega)]
    simp only [Nat.zero_add, hd]
    rw [runesF_end s _ (by omega)]
theorem two_list (l : List UInt8) : (⟨#[97]⟩ : ByteArray) ++ ⟨l.toArray⟩ = ⟨(97 :: l).toArray⟩ := ba_app [97] l
theorem two_runes (c : Nat) (hc : c < 1114112) (hn : ¬ (55296 ≤ c ∧ c ≤ 57343)) : ∃ s : ByteArray, runesBytes [97, (c : Int)] = s ∧ s.size ≤ 5 ∧ validB s = true ∧ runes s = [97, c] := by
  have hv : Utf8.valid (c : Int) = true := by
    unfold Utf8.valid
    simp only [Bool.or_eq_true, Bool.and_eq_true, decide_eq_true_eq]
    omega
  have e : runesBytes [97, (c : Int)] = (⟨#[97]⟩ : ByteArray) ++ Utf8.encode (c : Int) := by
    unfold runesBytes
    simp only [List.foldl_cons, List.foldl_nil]
    rw [show ByteArray.empty ++ Utf8.encode 97 = (⟨#[97]⟩ : ByteArray) by kernel_rfl]
  refine ⟨_, rfl, ?_⟩
  rw [e]
  unfold Utf8.encode
  simp only [hv, if_true, Int.toNat_natCast]
  by_cases h1 : c < 128
  · rw [if_pos h1, two_list [UInt8.ofNat c]]
    refine ⟨by show 2 ≤ 5; omega, two_of _ c 1 (by omega) rfl rfl ?_ (by omega)⟩
    have : byteAt (⟨(97 :: [UInt8.ofNat c]).toArray⟩ : ByteArray) 1 = c := by
      show (UInt8.ofNat c).toNat = c
      simp; omega
    rw [decode_low _ 1 (by omega), this]
  rw [if_neg h1]
  by_cases h2 : c < 2048
  · rw [if_pos h2, two_list [UInt8.ofNat (192 + c / 64), UInt8.ofNat (128 + c % 64)]]
    refine ⟨by show 3 ≤ 5; omega, two_of _ c 2 (by omega) rfl rfl (dec2 _ c ?_ ?_ (by show 2 < 3; omega) (by omega) h2) (by omega)⟩
    · show (UInt8.ofNat (192 + c / 64)).toNat = _
      simp; omega
    · show (UInt8.ofNat (128 + c % 64)).toNat = _
      simp; omega
  rw [if_neg h2]
  by_cases h3 : c < 65536
  · rw [if_pos h3, two_list [UInt8.ofNat (224 + c / 4096), UInt8.ofNat (128 + c / 64 % 64), UInt8.ofNat (128 + c % 64)]]
    refine ⟨by show 4 ≤ 5; omega, two_of _ c 3 (by omega) rfl rfl (dec3 _ c ?_ ?_ ?_ (by show 3 < 4; omega) (by omega) h3 hv) (by omega)⟩
    · show (UInt8.ofNat (224 + c / 4096)).toNat = _
      simp; omega
    · show (UInt8.ofNat (128 + c / 64 % 64)).toNat = _
      simp; omega
    · show (UInt8.ofNat (128 + c % 64)).toNat = _
      simp; omega
  rw [if_neg h3, two_list [UInt8.ofNat (240 + c / 262144), UInt8.ofNat (128 + c / 4096 % 64), UInt8.ofNat (128 + c / 64 % 64), UInt8.ofNat (128 + c % 64)]]
  refine ⟨by show 5 ≤ 5; omega, two_of _ c 4 (by omega) rfl rfl (dec4 _ c ?_ ?_ ?_ ?_ (by show 4 < 5; omega) (by omega) hc hv) (by omega)⟩
  · show (UInt8.ofNat (240 + c / 262144)).toNat = _
    simp; omega
  · show (UInt8.ofNat (128 + c / 4096 % 64)).toNat = _
    simp; omega
  · show (UInt8.ofNat (128 + c / 64 % 64)).toNat = _
    simp; omega
  · show (UInt8.ofNat (128 + c % 64)).toNat = _
    simp; omega
theorem two_iri {s : ByteArray} {c : Nat} (hs : s.size ≤ 5) (h0 : 0 < s.size) (hv : validB s = true) (hr : runes s = [97, c]) : iriB s = iriRuneB c := by
  unfold iriB
  rw [hv, hr, decide_eq_true h0, decide_eq_true (by omega)]
  simp only [Bool.true_and, List.all_cons, List.all_nil, Bool.and_true]
  rw [show iriRuneB 97 = true by decide, Bool.true_and]
theorem two_is {s : ByteArray} (hs : s.size ≤ 5) (hv : validB s = true) : isB ⟨3, s, ⟨#[]⟩⟩ = true := by
  unfold isB okB
  simp only [hv]
  rw [decide_eq_true (show s.size ≤ 30 by omega)]
  rfl
end Go.Proofs.YtmenjcjpihpjjaaDoor.Tm
