/- The walk of the laws' known answers, and of the law DoubleParses. -/
import Derived.Test.YtmenjcjpihpjjaaRefr
set_option linter.unusedSimpArgs false
set_option linter.unusedVariables false
namespace Go.Proofs.Ytmenjcjpihpjjaa.Fb
open Go Go.RowKit Go.Proofs.YtmenjcjpihpjjaaW.PrintWords Go.Proofs.YtmenjcjpihpjjaaW.PrintLast Go.Proofs.YtmenjcjpihpjjaaW.PrintMore
attribute [local go_sem] max2_int min2_int max_two min_two

theorem known_1 : parseL [45, 48, 101, 48] = some 9223372036854775808 := by decide +kernel
theorem known_2 : parseL [49, 46] = some 4607182418800017408 := by decide +kernel
theorem known_3 : parseL [49, 101, 50, 51] = none := by decide +kernel
theorem parse_at (l : List UInt8) (hs : l.length ≤ 200) (w : World) :
    Calls Try.prog 16 #[.string ⟨l.toArray⟩] w (PlainP w (parseL l)) := by
  have h := parse_any ⟨l.toArray⟩ (by rw [← toList_size]; exact hs) w
  exact h
def TrueP (w : World) (e : Ending) (w' : World) : Prop := e = .returned (.bool true) ∧ Below w.heap.size w w'
theorem below_two {w w1 w2 : World} (h1 : Below w.heap.size w w1) (h2 : Below w1.heap.size w1 w2) : Below w.heap.size w w2 := h1.trans (h2.mono h1.size)
set_option maxHeartbeats 400000 in
theorem known_any (w : World) : Calls Try.prog 14 #[] w (TrueP w) := by
  have C1 := Aside0.mk (fun w => parse_at [45, 48, 101, 48] (by decide) w)
  have C2 := Aside0.mk (fun w => parse_at [49, 46] (by decide) w)
  have C3 := Aside0.mk (fun w => parse_at [49, 101, 50, 51] (by decide) w)
  rw [known_1] at C1
  rw [known_2] at C2
  rw [known_3] at C3
  have CH := Aside0.mk (fun w => holds_any 9223372036854775808 0 ⟨#[61]⟩ w)
  rw [show holdsF (ord 9223372036854775808 0) ⟨#[61]⟩ = true by decide +kernel] at CH
  have CB := Aside0.mk (fun w => signbit_any 9223372036854775808 (by decide) w)
  rw [show neg 9223372036854775808 = true by decide] at CB
  go_enter Try.func14, Try.ntmps14
  go_wp2_with fail
  refine (C1.out _).mono ?_
  rintro e w1 ⟨rfl, hb1⟩
  have HB1 := Aside0.mk hb1
  clear hb1
  go_wp2_with fail
  refine (C2.out _).mono ?_
  rintro e w2 ⟨rfl, hb2⟩
  have HB2 := Aside0.mk (below_two HB1.out hb2)
  clear hb2
  go_wp2_with fail
  refine (C3.out _).mono ?_
  rintro e w3 ⟨rfl, hb3⟩
  have HB3 := Aside0.mk (below_two HB2.out hb3)
  clear hb3
  have q1 : (FloatKind.f64.format.order 9223372036854775808 0 == some Ordering.eq) = true := by decide +kernel
  have q2 : (FloatKind.f64.format.order 4607182418800017408 4607182418800017408 == some Ordering.eq) = true := by decide +kernel
  go_wp2_with (first
    | (go_at_call 17; (with_reducible refine (CB.out _).mono ?_); rintro e w1 ⟨rfl, rfl⟩)
    | (go_at_call 13; (with_reducible refine (CH.out _).mono ?_); rintro e w1 ⟨rfl, rfl⟩))
  go_ret
  exact ⟨rfl, HB3.out⟩
theorem ordK_self (a : Nat) : ordK a a = 0 := by
  unfold ordK
  cases key a with
  | none => rfl
  | some x => simp
theorem parseL_lt {l : List UInt8} {r : Nat} (h : parseL l = some r) : r < 18446744073709551616 := by
  unfold parseL at h
  split at h
  · injection h with h; omega
  · have key : ∀ v : Option Nat, (∀ f, v = some f → f ≤ 9218868437227405312) → v.map (fun f => if (signL l).2 = true then negF f else f) = some r → r < 18446744073709551616 := by
      intro v hv h
      cases v with
      | none => cases h
      | some f =>
        have h1 := hv f rfl
        simp only [Option.map_some, Option.some.injEq] at h
        split at h
        · rw [negF_add f (by omega)] at h; omega
        · omega
    refine key _ ?_ h
    intro f hf
    split at hf
    · injection hf with hf; omega
    · exact plain_le hf
theorem parses_law (s : ByteArray) (w : World) (hs1 : s.size ≤ maxLen) (hs : s.size ≤ 140737488351232) :
    Calls Try.prog 7 #[.string s] w fun e w' => e = .returned (.bool true) ∧ Below w.heap.size w w' := by
  have CK := Aside0.mk known_any
  by_cases h : s.size ≤ 100
  · have C1 := Aside0.mk (fun w => parse_any s (by omega) w)
    have C2 := Aside0.mk (fun w => refParse_any s (by omega) w)
    obtain ⟨v, hv⟩ : ∃ v, v = parseL s.data.toList := ⟨_, rfl⟩
    have hl : v.getD 0 < 18446744073709551616 := by
      cases hv2 : v with
      | none => show 0 < _; omega
      | some r => exact parseL_lt (l := s.data.toList) (by rw [← hv, hv2]; rfl)
    rw [← hv] at C1 C2
    clear hv
    have CS := Aside0.mk (same_any (v.getD 0) (v.getD 0) hl hl)
    rw [ordK_self] at CS
    obtain ⟨a, ha⟩ : ∃ a, a = v.getD 0 := ⟨_, rfl⟩
    obtain ⟨b, hb⟩ : ∃ b, b = v.isSome := ⟨_, rfl⟩
    unfold PlainP at C1 C2
    rw [← ha] at CS C1 C2
    rw [← hb] at C1 C2
    clear ha hb hl
    go_enter Try.func7, Try.ntmps7
    go_wp2_with fail
    refine (C1.out _).mono ?_
    rintro e w1 ⟨rfl, hb1⟩
    have HB1 := Aside0.mk hb1
    clear hb1
    go_wp2_with fail
    refine (C2.out _).mono ?_
    rintro e w2 ⟨rfl, hb2⟩
    have HB2 := Aside0.mk (below_two HB1.out hb2)
    clear hb2
    go_wp2_with fail
    refine (CS.out _).mono ?_
    rintro e w3 ⟨rfl, rfl⟩
    go_wp2_with fail
    refine (CK.out _).mono ?_
    rintro e w3 ⟨rfl, hb3⟩
    have HB3 := Aside0.mk (below_two HB2.out hb3)
    clear hb3
    go_wp2_with fail
    go_ret
    exact ⟨rfl, HB3.out⟩
  · have h2 : 100 < s.size := by omega
    go_enter Try.func7, Try.ntmps7
    go_wp2_with fail
    go_ret
    exact ⟨rfl, Below.refl _ _⟩
end Go.Proofs.Ytmenjcjpihpjjaa.Fb
