/- Ops: the program's and the reference's; the variables that are asked for. -/
import Derived.Test.YtbaegfjoionojaaDoorQvC
set_option linter.unusedSimpArgs false
set_option linter.unusedVariables false
namespace Go.Proofs.YtbaegfjoionojaaDoor.Qy
open Go Go.RowKit Go.Proofs.YtbaegfjoionojaaDoor.Tm Go.Proofs.YtbaegfjoionojaaDoorW.PrintWords

def opsL : List ByteArray := [⟨#[60]⟩, ⟨#[60, 61]⟩, ⟨#[62]⟩, ⟨#[62, 61]⟩, ⟨#[61]⟩, ⟨#[33, 61]⟩]
def opB (s : ByteArray) : Bool := Lib.containsS opsL s
set_option maxRecDepth 100000 in
set_option maxHeartbeats 8000000 in
theorem isOp_any (s : ByteArray) (w : World) : Calls Tryd.prog 80 #[.string s] w fun e w' => e = .returned (.bool (opB s)) ∧ Below w.heap.size w w' := by
  obtain ⟨wz, hwz, HB, HN, -⟩ := boxO w #[.string ⟨#[60]⟩, .string ⟨#[60, 61]⟩, .string ⟨#[62]⟩, .string ⟨#[62, 61]⟩, .string ⟨#[61]⟩, .string ⟨#[33, 61]⟩] 9
  have HHW := Aside0.mk hwz.symm
  have hts : TsAt wz anyB (some ⟨w.heap.size, 0, none⟩) opsL := ⟨by decide, fun _ => ⟨_, _, rfl, trivial, row_ts (ts := opsL) HN.out⟩⟩
  have CC : Aside0 (Calls Tryd.prog 78 #[.slice (some ⟨w.heap.size, 0, none⟩) 6 6, .string s] wz fun e w' => e = .returned (.bool (opB s)) ∧ w' = wz) := ⟨contains_ts hts 6 s⟩
  obtain ⟨b, hb⟩ : ∃ b, opB s = b := ⟨_, rfl⟩
  rw [hb] at CC ⊢
  clear hwz hts hb
  go_enter Tryd.func80, Tryd.ntmps80
  go_wp2_with (rw [HHW.out]; go_at_call 78; (with_reducible refine CC.out.mono ?_); rintro e w1 ⟨rfl, rfl⟩)
  go_ret
  exact ⟨rfl, HB.out⟩
theorem lit_ne {s : ByteArray} {l : List UInt8} (h : ¬ s = ⟨l.toArray⟩) : ¬ s.toList = l ∧ (s.toList == l) = false := by
  have : ¬ s.toList = l := fun e => h (by
    rw [tl] at e
    obtain ⟨⟨x⟩⟩ := s
    obtain rfl : x = l := e
    rfl)
  exact ⟨this, by rw [beq_eq_false_iff_ne]; exact this⟩
set_option maxRecDepth 100000 in
set_option maxHeartbeats 8000000 in
theorem refOp_any (s : ByteArray) (w : World) : Calls Tryd.prog 83 #[.string s] w fun e w' => e = .returned (.bool (opB s)) ∧ w' = w := by
  by_cases h : s ∈ opsL
  · have hb : opB s = true := (Lib.containsS_iff opsL s).2 h
    rw [hb]
    unfold opsL at h
    simp only [List.mem_cons, List.not_mem_nil, or_false] at h
    rcases h with rfl | rfl | rfl | rfl | rfl | rfl
    all_goals
      clear hb
      go_enter Tryd.func83, Tryd.ntmps83
      go_wp2_with fail
      go_ret
      exact ⟨rfl, rfl⟩
  · have hb : opB s = false := by
      cases hb : opB s with
      | false => rfl
      | true => exact absurd ((Lib.containsS_iff opsL s).1 hb) h
    rw [hb]
    unfold opsL at h
    simp only [List.mem_cons, List.not_mem_nil, or_false, not_or] at h
    obtain ⟨h0, h1, h2, h3, h4, h5⟩ := h
    obtain ⟨a0, b0⟩ := st_ne h0
    obtain ⟨c0, d0⟩ := lit_ne (l := [60]) h0
    obtain ⟨a1, b1⟩ := st_ne h1
    obtain ⟨c1, d1⟩ := lit_ne (l := [60, 61]) h1
    obtain ⟨a2, b2⟩ := st_ne h2
    obtain ⟨c2, d2⟩ := lit_ne (l := [62]) h2
    obtain ⟨a3, b3⟩ := st_ne h3
    obtain ⟨c3, d3⟩ := lit_ne (l := [62, 61]) h3
    obtain ⟨a4, b4⟩ := st_ne h4
    obtain ⟨c4, d4⟩ := lit_ne (l := [61]) h4
    obtain ⟨a5, b5⟩ := st_ne h5
    obtain ⟨c5, d5⟩ := lit_ne (l := [33, 61]) h5
    clear hb h0 h1 h2 h3 h4 h5
    go_enter Tryd.func83, Tryd.ntmps83
    go_wp2_with fail
    go_ret
    exact ⟨rfl, rfl⟩
end Go.Proofs.YtbaegfjoionojaaDoor.Qy
