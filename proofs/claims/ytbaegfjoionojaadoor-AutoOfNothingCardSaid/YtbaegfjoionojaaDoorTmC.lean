/- The walks of IsIRI, isLabel, isLang. -/
import Derived.Test.YtbaegfjoionojaaDoorTmB
import Derived.Test.YtbaegfjoionojaaDoorTmL
set_option linter.unusedSimpArgs false
set_option linter.unusedVariables false
namespace Go.Proofs.YtbaegfjoionojaaDoor.Tm
open Go Go.RowKit Go.Shelf Go.Proofs.YtbaegfjoionojaaDoorW.PrintWords

/-- The tables that the library reads, and its variable MaxLen. -/
def Tabs (w : World) : Prop := Lib.Utf8Tabs (Tryd.laysValid_ren.g 3) (Tryd.laysValid_ren.g 4) w ∧ ∃ m, w.cell? ⟨2, 0, none⟩ = some (.int .i64 m)
theorem Tabs.below {w w1 : World} (h : Tabs w) (hb : Below w.heap.size w w1) : Tabs w1 := by
  obtain ⟨h1, m, h2⟩ := h
  have hk : ∀ {a : Addr} {v : Value}, w.cell? a = some v → w1.cell? a = some v := fun {a v} h => (hb.cell (World.block_lt_of_cell? w a h)).trans h
  refine ⟨⟨fun c hc => hk (h1.1 c hc), fun i hi => ⟨hk (h1.2 i hi).1, hk (h1.2 i hi).2⟩⟩, m, (hb.cell (p := ⟨2, 0, none⟩) (World.block_lt_of_cell? w _ h2)).trans h2⟩
def validB (s : ByteArray) : Bool := Lib.validD s.data.toList
theorem valid_any (s : ByteArray) (w : World) (hs : s.size ≤ 140737488351232) (hT : Tabs w) : Calls Tryd.prog 111 #[.string s] w fun e w' => e = .returned (.bool (validB s)) ∧ Below w.heap.size w w' :=
  Tryd.utf8_ValidString s w (by omega) hT.1
/-- May a text be an IRI? -/
def iriB (s : ByteArray) : Bool := decide (0 < s.size) && decide (s.size ≤ 60) && validB s && (runes s).all iriRuneB
/-- May it be a label? -/
def labelB (s : ByteArray) : Bool := decide (0 < s.size) && decide (s.size ≤ 8) && (runes s).all alnumB
theorem size_list (s : ByteArray) : s.data.toList.length = s.size := by rw [Array.length_toList]; rfl
theorem empty_list {s : ByteArray} (h : s.size = 0) : s = ⟨#[]⟩ := by
  obtain ⟨⟨l⟩⟩ := s
  have : l.length = 0 := h
  have : l = [] := List.eq_nil_of_length_eq_zero this
  subst this; rfl
theorem tl (s : ByteArray) : s.toList = s.data.toList := by
  have h := Lib.extract_toList s 0 s.size
  rw [show s.extract 0 s.size = s by simp] at h
  rw [h, List.drop_zero, List.take_of_length_le (by simp)]
theorem string_ne {s : ByteArray} (h : 0 < s.size) : s.toList.isEmpty = false := by
  rw [tl]
  cases hl : s.data.toList with
  | nil => have := size_list s; rw [hl] at this; simp at this; omega
  | cons a l => rfl
set_option maxHeartbeats 1000000 in
theorem iri_any (s : ByteArray) (w : World) (hs : s.size ≤ 140737488351232) (hT : Tabs w) : Calls Tryd.prog 117 #[.string s] w fun e w' => e = .returned (.bool (iriB s)) ∧ Below w.heap.size w w' := by
  by_cases h0 : 0 < s.size
  · have e1 := string_ne h0
    by_cases h1 : s.size ≤ 60
    · have g1 : (s.size : Int) ≤ 60 := by omega
      have CV := Aside0.mk (valid_any s w hs hT)
      have CA := Aside0.mk (fun W => all_rune s W)
      have HE : Aside0 (iriB s = (validB s && (runes s).all iriRuneB)) := ⟨by unfold iriB; simp [h0, h1]⟩
      obtain ⟨a, ha⟩ : ∃ a, a = validB s := ⟨_, rfl⟩
      obtain ⟨b, hb⟩ : ∃ b, b = (runes s).all iriRuneB := ⟨_, rfl⟩
      rw [← hb] at CA HE
      rw [← ha] at CV HE
      clear ha hb h0 h1
      cases a
      all_goals
        go_enter Tryd.func117, Tryd.ntmps117
        go_wp2_with (first
          | (go_at_call 111; (with_reducible refine CV.out.mono ?_); rintro e w1 ⟨rfl, hb⟩; have HB1 := Aside0.mk hb; clear hb)
          | (go_at_call 140; (with_reducible refine (CA.out _).mono ?_); rintro e w2 ⟨rfl, hb⟩; have HB2 := Aside0.mk (below_then HB1.out HB1.out.size hb); clear hb))
        go_ret
        exact ⟨ret_b (by rw [HE.out]; try simp), (by first | exact HB2.out | exact HB1.out)⟩
    · have g1 : (60 : Int) < (s.size : Int) := by omega
      have HE : Aside0 (iriB s = false) := ⟨by unfold iriB; simp [h1]⟩
      clear h0 h1
      go_enter Tryd.func117, Tryd.ntmps117
      go_wp2_with fail
      go_ret
      exact ⟨ret_b (by rw [HE.out]; try simp), Below.refl _ _⟩
  · have HE : Aside0 (iriB s = false) := ⟨by unfold iriB; simp [h0]⟩
    obtain rfl := empty_list (s := s) (by omega)
    clear h0
    go_enter Tryd.func117, Tryd.ntmps117
    go_wp2_with fail
    go_ret
    exact ⟨ret_b (by rw [HE.out]; try simp), Below.refl _ _⟩
set_option maxHeartbeats 1000000 in
theorem label_any (s : ByteArray) (w : World) (hs : s.size ≤ 140737488351232) (hT : Tabs w) : Calls Tryd.prog 131 #[.string s] w fun e w' => e = .returned (.bool (labelB s)) ∧ Below w.heap.size w w' := by
  by_cases h0 : 0 < s.size
  · have e1 := string_ne h0
    by_cases h1 : s.size ≤ 8
    · have g1 : (s.size : Int) ≤ 8 := by omega
      have CV := Aside0.mk (valid_any s w hs hT)
      have CA := Aside0.mk (fun W => all_label s W)
      have HE : Aside0 (labelB s = ((runes s).all alnumB)) := ⟨by unfold labelB; simp [h0, h1]⟩
      obtain ⟨b, hb⟩ : ∃ b, b = (runes s).all alnumB := ⟨_, rfl⟩
      rw [← hb] at CA HE
      clear CV
      clear hb h0 h1
      cases b
      all_goals
        go_enter Tryd.func131, Tryd.ntmps131
        go_wp2_with (first
          | (go_at_call 140; (with_reducible refine (CA.out _).mono ?_); rintro e w2 ⟨rfl, hb⟩; have HB2 := Aside0.mk hb; clear hb))
        go_ret
        exact ⟨ret_b (by rw [HE.out]; try simp), HB2.out⟩
    · have g1 : (8 : Int) < (s.size : Int) := by omega
      have HE : Aside0 (labelB s = false) := ⟨by unfold labelB; simp [h1]⟩
      clear h0 h1
      go_enter Tryd.func131, Tryd.ntmps131
      go_wp2_with fail
      go_ret
      exact ⟨ret_b (by rw [HE.out]; try simp), Below.refl _ _⟩
  · have HE : Aside0 (labelB s = false) := ⟨by unfold labelB; simp [h0]⟩
    obtain rfl := empty_list (s := s) (by omega)
    clear h0
    go_enter Tryd.func131, Tryd.ntmps131
    go_wp2_with fail
    go_ret
    exact ⟨ret_b (by rw [HE.out]; try simp), Below.refl _ _⟩
end Go.Proofs.YtbaegfjoionojaaDoor.Tm
