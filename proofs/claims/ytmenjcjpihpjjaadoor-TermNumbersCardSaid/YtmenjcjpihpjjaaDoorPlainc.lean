/- The walks of Parse: a number without a sign. -/
import Derived.Test.YtmenjcjpihpjjaaDoorPlainb
set_option linter.unusedSimpArgs false
set_option linter.unusedVariables false
namespace Go.Proofs.YtmenjcjpihpjjaaDoor.Fb
open Go Go.RowKit Go.Proofs.YtmenjcjpihpjjaaDoorW.PrintWords Go.Proofs.YtmenjcjpihpjjaaDoorW.PrintLast Go.Proofs.YtmenjcjpihpjjaaDoorW.PrintMore
attribute [local go_sem] max2_int min2_int max_two min_two

theorem extract_take (s : ByteArray) (n : Nat) : (s.extract 0 n).data.toList = s.data.toList.take n := by rw [Lib.extract_data]; simp
theorem extract_drop (s : ByteArray) (n : Nat) : (s.extract n s.size).data.toList = s.data.toList.drop n := by
  rw [Lib.extract_data, List.take_of_length_le (by simp)]
def PlainP (w : World) (v : Option Nat) (e : Ending) (w' : World) : Prop := e = .returned (.tuple #[.float .f64 (v.getD 0), .bool v.isSome]) ∧ Below w.heap.size w w'
theorem neg_if {c : Prop} [Decidable c] {X Y : Int} (h0 : 0 ≤ X) (h1 : X < Y) (h2 : Y ≤ 1000) : -1000 < (if c then -X else X) ∧ (if c then -X else X) < 1000 := by
  split <;> omega
theorem expL_bound (l : List UInt8) : -1000 < (expL l).1 ∧ (expL l).1 < 1000 := by
  cases l with
  | nil => exact ⟨by simp [expL], by simp [expL]⟩
  | cons c r =>
    rw [expL]
    generalize signL r = d
    by_cases hc : (c.toNat : Int) = 101 ∨ (c.toNat : Int) = 69
    · rw [if_pos hc]
      by_cases h : d.1 = [] ∨ 3 < d.1.length ∨ digN d.1 ≠ d.1.length
      · rw [if_pos h]; exact ⟨by decide, by decide⟩
      · rw [if_neg h]
        have h1 : d.1.length ≤ 3 := by
          by_cases h2 : 3 < d.1.length
          · exact absurd (.inr (.inl h2)) h
          · omega
        have h2 : digN d.1 = d.1.length := by
          by_cases h3 : digN d.1 = d.1.length
          · exact h3
          · exact absurd (.inr (.inr h3)) h
        obtain ⟨b1, b2⟩ := wholeI_bound _ (digN_all h2)
        have h3 : (10 : Int) ^ d.1.length ≤ 10 ^ 3 := by
          have := Nat.pow_le_pow_right (n := 10) (by decide) h1
          exact_mod_cast this
        exact neg_if b1 b2 (by omega)
    · rw [if_neg hc]; exact ⟨by decide, by decide⟩
theorem digN_take : ∀ l : List UInt8, AllDig (l.take (digN l))
  | [] => by intro c hc; simp at hc
  | c :: l => by
    rw [digN]
    split
    · rename_i h
      intro d hd
      rw [List.take_succ_cons] at hd
      rcases List.mem_cons.1 hd with rfl | hd
      · exact h
      · exact digN_take l d hd
    · intro d hd; simp at hd
theorem AllDig.append {a b : List UInt8} (ha : AllDig a) (hb : AllDig b) : AllDig (a ++ b) := fun c hc => by
  rcases List.mem_append.1 hc with h | h
  · exact ha c h
  · exact hb c h
/-- When a number without a sign may be. -/
def May (ok : Bool) (all : List UInt8) (e : Int) : Prop := ok = true ∧ all ≠ [] ∧ all.length ≤ 15 ∧ -22 ≤ e ∧ e ≤ 22
theorem plainL_no {l : List UInt8} {n : Nat} {ev : Int} {ok : Bool} (hn : digN l = n) (c : Lib.hasPrefix (l.drop n) [46] = false) (hx : expL (l.drop n) = (ev, ok)) :
    (May ok (l.take n) ev → plainL l = scaleF (wholeI (l.take n)) ev) ∧ (¬ May ok (l.take n) ev → plainL l = none) := by
  have e : plainL l = if ok = true ∧ l.take n ≠ [] ∧ (l.take n).length ≤ 15 ∧ -22 ≤ ev ∧ ev ≤ 22 then scaleF (wholeI (l.take n)) ev else none := by
    unfold plainL pointL
    simp only [hn, c, Bool.false_eq_true, if_false, hx, List.append_nil, List.length_nil]
    simp
  rw [e]
  exact ⟨fun h => if_pos h, fun h => if_neg h⟩
theorem below_drewN {B : Nat} {w w1 : World} (h : Below B w w1) (n : Nat) : Below B w (w1.drewN n) := pw_below_drewN h n
theorem plain_end {w w1 : World} {n : Nat} {v : Option Nat} (hv : v = none) (hb : Below (w.drewN n).heap.size (w.drewN n) w1) :
    PlainP w v (.returned (.tuple #[.float .f64 0, .bool false])) w1 := ⟨by rw [hv]; rfl, (below_drewN (Below.refl w.heap.size w) n).trans hb⟩
theorem plain_end2 {w w1 w2 : World} {n r : Nat} {v : Option Nat} (hv : v = some r) (hb : Below (w.drewN n).heap.size (w.drewN n) w1) (hb2 : Below w1.heap.size w1 w2) :
    PlainP w v (.returned (.tuple #[.float .f64 r, .bool true])) w2 := ⟨by rw [hv]; rfl, ((below_drewN (Below.refl w.heap.size w) n).trans hb).trans (hb2.mono hb.size)⟩
theorem may_of {ok : Bool} {l : List UInt8} {b : ByteArray} {e : Int} (hb : b.data.toList = l) (h1 : ok = true) (h2 : b.toList.isEmpty = false) (h3 : l.length ≤ 15) (h4 : -22 ≤ e) (h5 : e ≤ 22) : May ok l e := by
  refine ⟨h1, ?_, h3, h4, h5⟩
  rw [bytes_toList, hb] at h2
  rintro rfl
  cases h2
set_option maxHeartbeats 400000 in
theorem plain_no (s : ByteArray) (hs : s.size ≤ 200) (w : World) (c : Lib.hasPrefix (s.data.toList.drop (digN s.data.toList)) [46] = false)
    (hsc : ∀ m e : Int, 0 ≤ m → m < 1000000000000000 → -22 ≤ e → e ≤ 22 → ∃ r, scaleF m e = some r) :
    Calls Tryd.prog 67 #[.string s] w (PlainP w (plainL s.data.toList)) := by
  obtain ⟨n, hn⟩ : ∃ n, n = digN s.data.toList := ⟨_, rfl⟩
  have hns : n ≤ s.size := by have := digN_le s.data.toList; rw [hn, ← toList_size]; exact this
  have hdt := digN_take s.data.toList
  rw [← hn] at hdt
  have HDT := Aside0.mk hdt
  have HN := Aside0.mk hn.symm
  rw [← hn] at c
  have HC := Aside0.mk c
  have ht := extract_take s n
  have hd := extract_drop s n
  clear hn c hdt
  have HT := Aside0.mk ht
  have HD := Aside0.mk hd
  clear ht hd
  have CD := Aside0.mk (digits_any s (by omega))
  have CE := Aside0.mk (fun w => exponent_any (s.extract n s.size) (by simp; omega) w)
  rw [HD.out] at CE
  obtain ⟨x, hx⟩ : ∃ x, x = expL (s.data.toList.drop n) := ⟨_, rfl⟩
  rw [← hx] at CE
  have HX := Aside0.mk hx.symm
  have hxb := expL_bound (s.data.toList.drop n)
  rw [← hx] at hxb
  clear hx
  obtain ⟨ev, ok⟩ := x
  obtain ⟨hx1, hx2⟩ := hxb
  simp only at hx1 hx2
  have HP := Aside0.mk (plainL_no HN.out HC.out HX.out)
  have hb : (s.extract 0 n ++ (⟨#[]⟩ : ByteArray)).data.toList = s.data.toList.take n := by
    rw [ByteArray.data_append, Array.toList_append, HT.out]; simp
  have hbz : (s.extract 0 n ++ (⟨#[]⟩ : ByteArray)).size = n := by
    rw [← toList_size, hb, List.length_take, toList_size]; omega
  have hlen : (s.data.toList.take n).length = n := by rw [List.length_take, toList_size]; omega
  by_cases hm : May ok (s.data.toList.take n) ev
  · have hp := HP.out.1 hm
    obtain ⟨m1, m2, m3, m4, m5⟩ := hm
    subst m1
    obtain ⟨v1, v2⟩ := wholeI_small _ HDT.out m3
    obtain ⟨r, hr⟩ := hsc _ ev v1 v2 m4 m5
    have CW := Aside0.mk (fun w => whole_any (s.extract 0 n ++ (⟨#[]⟩ : ByteArray)) (by omega) (by rw [hb]; exact HDT.out) w)
    rw [hb] at CW
    have CS := Aside0.mk (fun w => scaled_any _ ev r m4 m5 hr w)
    have h1 : (s.extract 0 n ++ (⟨#[]⟩ : ByteArray)).toList.isEmpty = false := by
      rw [bytes_toList, hb]; simpa using m2
    have HF := Aside0.mk (hp.trans hr)
    rw [hlen] at m3
    generalize wholeI (List.take n s.data.toList) = M at *
    clear hp hr hb hbz hlen m2 v1 v2 hsc HP
    go_enter Tryd.func67, Tryd.ntmps67
    go_wp2_with (first
      | (go_at_call 80; (with_reducible refine (CD.out _).mono ?_); rintro e w1 ⟨rfl, rfl⟩; rw [HN.out]))
    go_quiet (fail)
    go_wp2_with (first
      | (go_at_call 33; (with_reducible refine (Tryd.strings_CutPrefix _ _ _).mono ?_); rintro e w1 ⟨rfl, rfl⟩; rw [HD.out, show (⟨#[46]⟩ : ByteArray).data.toList = [46] from rfl, HC.out])
      | (go_at_call 81; (with_reducible refine (CE.out _).mono ?_); rintro e w1 ⟨rfl, hb⟩; have HB := Aside0.mk hb; clear hb)
      | (go_at_call 83; (with_reducible refine (CW.out _).mono ?_); rintro e w2 ⟨rfl, hb2⟩; have HB2 := Aside0.mk hb2; clear hb2)
      | (go_at_call 82; (with_reducible refine (CS.out _).mono ?_); rintro e w3 ⟨rfl, rfl⟩))
    go_ret2
    exact plain_end2 HF.out HB.out HB2.out
  · have hp := HP.out.2 hm
    have HF := Aside0.mk hp
    have HM := Aside0.mk hm
    have HB0 := Aside0.mk hb
    have HL := Aside0.mk hlen
    clear hp hm hb hbz hlen hsc HP
    go_enter Tryd.func67, Tryd.ntmps67
    go_wp2_with (first
      | (go_at_call 80; (with_reducible refine (CD.out _).mono ?_); rintro e w1 ⟨rfl, rfl⟩; rw [HN.out]))
    go_quiet (fail)
    go_wp2_with (first
      | (go_at_call 33; (with_reducible refine (Tryd.strings_CutPrefix _ _ _).mono ?_); rintro e w1 ⟨rfl, rfl⟩; rw [HD.out, show (⟨#[46]⟩ : ByteArray).data.toList = [46] from rfl, HC.out])
      | (go_at_call 81; (with_reducible refine (CE.out _).mono ?_); rintro e w1 ⟨rfl, hb⟩; have HB := Aside0.mk hb; clear hb))
    all_goals first
      | (go_ret2; exact plain_end HF.out HB.out)
      | (exfalso
         have k1 : ok = true := by assumption
         have k2 : (((s.extract 0 n ++ (⟨#[]⟩ : ByteArray)).toList.isEmpty = false ∧ (n : Int) ≤ 15) ∧ -22 ≤ ev) ∧ ev ≤ 22 := by assumption
         exact HM.out (may_of HB0.out k1 k2.1.1.1 (by rw [HL.out]; omega) k2.1.2 k2.2))
end Go.Proofs.YtmenjcjpihpjjaaDoor.Fb
