/- The walks of Parse: the exponent. -/
import Derived.Test.YtmenjcjpihpjjaaDoorScale
set_option linter.unusedSimpArgs false
set_option linter.unusedVariables false
namespace Go.Proofs.YtmenjcjpihpjjaaDoor.Fb
open Go Go.RowKit Go.Proofs.YtmenjcjpihpjjaaDoorW.PrintWords Go.Proofs.YtmenjcjpihpjjaaDoorW.PrintLast Go.Proofs.YtmenjcjpihpjjaaDoorW.PrintMore
attribute [local go_sem] max2_int min2_int max_two min_two

theorem bytes_toList (s : ByteArray) : s.toList = s.data.toList := by
  have h := Lib.extract_toList s 0 s.size
  rw [show s.extract 0 s.size = s by simp] at h
  rw [h, List.drop_zero, List.take_of_length_le (by simp)]
theorem toList_size (s : ByteArray) : s.data.toList.length = s.size := by simp
theorem tail_all (s : ByteArray) {c : UInt8} {r : List UInt8} (h : s.data.toList = c :: r) : List.take (s.size - 1) s.data.toList.tail = r := by
  have h1 := toList_size s
  rw [h] at h1 ⊢
  simp only [List.length_cons] at h1
  rw [List.tail_cons, List.take_of_length_le (by omega)]
theorem head_at (s : ByteArray) {c : UInt8} {r : List UInt8} (h : s.data.toList = c :: r) (h0 : 0 < s.size) : s[0] = c := by
  have h1 := drop_at s 0 h0
  rw [List.drop_zero, h] at h1
  injection h1 with h2 _
  exact h2.symm
/-- What stands behind the digits. -/
def expL : List UInt8 → Int × Bool
  | [] => (0, true)
  | c :: r => if (c.toNat : Int) = 101 ∨ (c.toNat : Int) = 69 then (if (signL r).1 = [] ∨ 3 < (signL r).1.length ∨ digN (signL r).1 ≠ (signL r).1.length then (0, false) else (if (signL r).2 = true then -wholeI (signL r).1 else wholeI (signL r).1, true)) else (0, false)
theorem digN_all {l : List UInt8} (h : digN l = l.length) : AllDig l := by
  induction l with
  | nil => intro c hc; simp at hc
  | cons a l ih =>
    rw [digN] at h
    split at h
    · rename_i ha
      intro c hc
      rcases List.mem_cons.1 hc with rfl | hc
      · exact ha
      · exact ih (by simpa using h) c hc
    · simp at h
theorem not_bad {d : List UInt8} (h1 : d.isEmpty = false) (h2 : d.length ≤ 3) (h3 : digN d = d.length) : ¬ (d = [] ∨ 3 < d.length ∨ digN d ≠ d.length) := by
  rintro (h | h | h)
  · rw [h] at h1; cases h1
  · omega
  · exact h h3
def ExpP (w : World) (v : Int × Bool) (e : Ending) (w' : World) : Prop := e = .returned (.tuple #[.int .i64 v.1, .bool v.2]) ∧ Below w.heap.size w w'
theorem exponent_any (s : ByteArray) (hs : s.size ≤ 1000) (w : World) :
    Calls Tryd.prog 81 #[.string s] w (ExpP w (expL s.data.toList)) := by
  have HB := Aside0.mk (Below.refl w.heap.size w)
  cases hl : s.data.toList with
  | nil =>
    have h0 : s.size = 0 := by rw [← toList_size, hl]; rfl
    have h1 : s.toList.isEmpty = true := by rw [bytes_toList, hl]; rfl
    clear hl
    go_enter Tryd.func81, Tryd.ntmps81
    go_wp2
    go_ret2
    exact ⟨rfl, HB.out⟩
  | cons c r =>
    have h0 : 0 < s.size := by rw [← toList_size, hl]; simp
    have h1 : s.toList.isEmpty = false := by rw [bytes_toList, hl]; rfl
    have HT := Aside0.mk (tail_all s hl)
    have hc := head_at s hl h0
    have hrl : r.length ≤ 1000 := by have := toList_size s; rw [hl] at this; simp at this; omega
    clear hl
    obtain ⟨d, hd⟩ : ∃ d, d = signL r := ⟨_, rfl⟩
    have HD := Aside0.mk hd.symm
    have hdl : d.1.length ≤ 1000 := by
      rw [hd]; unfold signL Lib.trimPrefix; by_cases c1 : Lib.hasPrefix r [45] = true <;> by_cases c2 : Lib.hasPrefix r [43] = true <;> simp [c1, c2] <;> omega
    clear hd
    obtain ⟨d, m⟩ := d
    simp only at hdl
    by_cases ce : (c.toNat : Int) = 101 ∨ (c.toNat : Int) = 69
    · have HE : Aside0 (expL (c :: r) = if d = [] ∨ 3 < d.length ∨ digN d ≠ d.length then (0, false) else (if m = true then -wholeI d else wholeI d, true)) := ⟨by
        rw [expL, if_pos ce, HD.out]⟩
      rw [HE.out]
      obtain ⟨V, hV⟩ : ∃ V : Int × Bool, V = if d = [] ∨ 3 < d.length ∨ digN d ≠ d.length then (0, false) else (if m = true then -wholeI d else wholeI d, true) := ⟨_, rfl⟩
      have HV := Aside0.mk hV
      rw [← hV]
      clear hV
      have HT2 : Aside0 ((s.extract 1 s.size).data.toList = r) := ⟨by rw [Lib.extract_data]; have := HT.out; rw [List.drop_one]; exact this⟩
      have h3 : (s[0].toNat : Int) = 101 ∨ (¬ (s[0].toNat : Int) = 101 ∧ ((s[0].toNat : Int) != 69) = false) := by
        rw [hc]
        by_cases c1 : (c.toNat : Int) = 101
        · exact .inl c1
        · have c2 : (c.toNat : Int) = 69 := ce.resolve_left c1
          exact .inr ⟨c1, by rw [c2]; rfl⟩
      clear hc ce HE
      have hcase : d = [] ∨ (d.isEmpty = false ∧ 3 < d.length) ∨ (d.isEmpty = false ∧ d.length ≤ 3 ∧ ¬ digN d = d.length ∧ ((digN d : Int) != (d.length : Int)) = true) ∨ (d.isEmpty = false ∧ d.length ≤ 3 ∧ digN d = d.length ∧ 0 ≤ wholeI d ∧ wholeI d < 1000000000000000) := by
        by_cases c1 : d = []
        · exact .inl c1
        · have c0 : d.isEmpty = false := by simpa using c1
          by_cases c2 : 3 < d.length
          · exact .inr (.inl ⟨c0, c2⟩)
          · by_cases c3 : digN d = d.length
            · exact .inr (.inr (.inr ⟨c0, by omega, c3, wholeI_small d (digN_all c3) (by omega)⟩))
            · exact .inr (.inr (.inl ⟨c0, by omega, c3, by simp; omega⟩))
      have ed : (⟨d.toArray⟩ : ByteArray).data.toList = d := by simp
      have es : (⟨d.toArray⟩ : ByteArray).size = d.length := by rw [← toList_size, ed]
      have CD := Aside0.mk (digits_any ⟨d.toArray⟩ (by omega))
      have CW := Aside0.mk (fun (h1 : d.length ≤ 3) (h2 : digN d = d.length) => whole_any ⟨d.toArray⟩ (by omega) (by rw [ed]; exact digN_all h2))
      rw [ed] at CD CW
      clear ed es
      rcases h3 with h3 | ⟨h3, h4⟩ <;> rcases hcase with hd | ⟨hd, hd3⟩ | ⟨hd, hd3, hdn, hdb⟩ | ⟨hd, hd3, hdn, hdb⟩
      rotate_left 3
      have CW2 := Aside0.mk (CW.out hd3 hdn)
      have HDN := Aside0.mk hdn
      have HNB := Aside0.mk (not_bad hd hd3 hdn)
      clear hdn
      rotate_left 4
      have CW2 := Aside0.mk (CW.out hd3 hdn)
      have HDN := Aside0.mk hdn
      have HNB := Aside0.mk (not_bad hd hd3 hdn)
      clear hdn
      rotate_left 1
      all_goals
        clear CW
        go_enter Tryd.func81, Tryd.ntmps81
        go_wp2_with (first
          | (go_at_call 66; (with_reducible refine (signed_any _ _).mono ?_); rintro e w1 ⟨rfl, rfl⟩; rw [HT2.out, HD.out])
          | (go_at_call 80; (with_reducible refine (CD.out _).mono ?_); rintro e w1 ⟨rfl, rfl⟩; first | rw [HDN.out] | skip)
          | (go_at_call 83; (with_reducible refine (CW2.out _).mono ?_); rintro e w1 ⟨rfl, hb⟩; have HB2 := Aside0.mk hb; clear hb))
      all_goals
        go_ret2
        first
          | (refine ⟨?_, HB2.out⟩; rw [HV.out, if_neg HNB.out]; simp only [*, if_true, Bool.false_eq_true, if_false]; rfl)
          | (refine ⟨?_, HB.out⟩; rw [HV.out, if_pos (by first | exact .inl hd | exact .inr (.inl hd3) | exact .inr (.inr hdn))]; rfl)
    · have HE : Aside0 (expL (c :: r) = (0, false)) := ⟨by rw [expL, if_neg ce]⟩
      rw [HE.out]
      have h2 : ¬ (s[0].toNat : Int) = 101 := fun h => ce (.inl (by rw [← hc]; exact h))
      have h3 : ((s[0].toNat : Int) != 69) = true := by simp; intro h; exact ce (.inr (by rw [← hc]; exact_mod_cast h))
      clear hc ce
      go_enter Tryd.func81, Tryd.ntmps81
      go_wp2
      go_ret2
      exact ⟨rfl, HB.out⟩
end Go.Proofs.YtmenjcjpihpjjaaDoor.Fb
