/- The walks of escaped and quoted. -/
import Derived.Test.YtmenjcjpihpjjaaDoorTmJ
set_option linter.unusedSimpArgs false
set_option linter.unusedVariables false
namespace Go.Proofs.YtmenjcjpihpjjaaDoor.Tm
open Go Go.RowKit Go.Shelf Go.Proofs.YtmenjcjpihpjjaaDoorW.PrintWords

def hexD (x : Nat) : UInt8 := if x < 10 then (48 + x).toUInt8 else (55 + x).toUInt8
/-- Must a byte be escaped? -/
def mustB (c : Nat) : Bool := decide (c < 32) || c == 127 || c == 34 || c == 92
/-- A byte that must be, escaped. -/
def escL (c : Nat) : List UInt8 :=
  if c = 34 then [92, 34] else if c = 92 then [92, 92] else if c = 10 then [92, 110] else if c = 13 then [92, 114] else if c = 9 then [92, 116] else if c = 8 then [92, 98] else if c = 12 then [92, 102]
  else [92, 117, 48, 48, hexD (c / 16), hexD (c % 16)]
theorem must_cases {c : Nat} (h : mustB c = true) : c = 0 ∨ c = 1 ∨ c = 2 ∨ c = 3 ∨ c = 4 ∨ c = 5 ∨ c = 6 ∨ c = 7 ∨ c = 8 ∨ c = 9 ∨ c = 10 ∨ c = 11 ∨ c = 12 ∨ c = 13 ∨ c = 14 ∨ c = 15 ∨ c = 16 ∨ c = 17 ∨ c = 18 ∨ c = 19 ∨ c = 20 ∨ c = 21 ∨ c = 22 ∨ c = 23 ∨ c = 24 ∨ c = 25 ∨ c = 26 ∨ c = 27 ∨ c = 28 ∨ c = 29 ∨ c = 30 ∨ c = 31 ∨ c = 127 ∨ c = 34 ∨ c = 92 := by
  unfold mustB at h; simp at h; omega
theorem ret_str {a b : ByteArray} (h : a = b) : Ending.returned (.string a) = .returned (.string b) := by rw [h]
set_option maxRecDepth 100000 in
set_option maxHeartbeats 8000000 in
theorem escaped_any (c : Nat) (w : World) (h : mustB c = true) : Calls Tryd.prog 49 #[.int .u8 (c : Int)] w fun e w' => e = .returned (.string ⟨(escL c).toArray⟩) ∧ Below w.heap.size w w' := by
  have k1 : ∀ W, (convert 21 9 (.int .i32 34)).run Tryd.prog W = .ok (.string ⟨#[34]⟩) W := fun W => by kernel_rfl
  have k2 : ∀ W, (convert 21 9 (.int .i32 92)).run Tryd.prog W = .ok (.string ⟨#[92]⟩) W := fun W => by kernel_rfl
  rcases must_cases h with rfl | rfl | rfl | rfl | rfl | rfl | rfl | rfl | rfl | rfl | rfl | rfl | rfl | rfl | rfl | rfl | rfl | rfl | rfl | rfl | rfl | rfl | rfl | rfl | rfl | rfl | rfl | rfl | rfl | rfl | rfl | rfl | rfl | rfl | rfl
  all_goals
    clear h
    go_enter Tryd.func49, Tryd.ntmps49
    go_wp2_with fail
    try (go_quiet (fail); go_wp2_with fail)
    go_ret
    first
      | exact ⟨ret_str (by kernel_rfl), Below.refl _ _⟩
      | exact ⟨ret_str (by kernel_rfl), pw_below_drewN (Below.refl _ _) _⟩
end Go.Proofs.YtmenjcjpihpjjaaDoor.Tm
