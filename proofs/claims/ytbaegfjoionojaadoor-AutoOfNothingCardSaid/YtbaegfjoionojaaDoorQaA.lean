/- An argument that is a word (a row of steps): opened. -/
import Derived.Test.YtbaegfjoionojaaDoorQvA
set_option linter.unusedSimpArgs false
set_option linter.unusedVariables false
namespace Go.Proofs.YtbaegfjoionojaaDoor.Qy
open Go Go.RowKit Go.ChangeShapes Go.WideShapes Go.ChangeAt Go.Proofs.YtbaegfjoionojaaDoor.Tm Go.Proofs.YtbaegfjoionojaaDoorW.PrintWords

/-- A step. -/
structure Stp where
  f : Int
  t : Int
  back : Bool
  neg : Bool
  ts : List ByteArray
def StpAt (w : World) (a : Stp) (cs : List Value) : Prop := ∃ (A : Option Addr) (c : Nat), cs = [.int .i64 a.f, .int .i64 a.t, .bool a.back, .bool a.neg, .slice A a.ts.length c] ∧ a.ts.length ≤ c ∧ TsAt w anyB A a.ts
theorem StpAt.len {w : World} {a : Stp} {cs : List Value} (h : StpAt w a cs) : cs.length = 5 := by
  obtain ⟨A, c, e, -⟩ := h
  rw [e]; rfl
theorem StpAt.below {w w1 : World} {a : Stp} {cs : List Value} (h : StpAt w a cs) (hb : Below w.heap.size w w1) : StpAt w1 a cs := by
  obtain ⟨A, c, e, h1, h2⟩ := h
  exact ⟨A, c, e, h1, h2.move (fun g _ hg => hb.block g hg)⟩
section
variable {H : Type} {enc : TypeId × Value → H} {W : World} {base b1 : Nat} {sp : Nat → Bool} {held : Bool}
theorem cells_step : Tryd.prog.cellsOf 56 = 5 := by kernel_rfl
theorem cut5 {α : Type} {l : List α} (h : l.length = 5) : ∃ a b c d e, l = [a, b, c, d, e] := by
  obtain ⟨a, m, rfl⟩ : ∃ a m, l = a :: m := by cases l with | nil => cases h | cons a m => exact ⟨a, m, rfl⟩
  obtain ⟨b, c, d, e, rfl⟩ := cut4 (l := m) (by simpa using h)
  exact ⟨a, b, c, d, e, rfl⟩
set_option maxRecDepth 100000 in
theorem trod_step {fuel : Nat} {cs : List Value} {x : DataW H × List MemPlace} (h : DataW.trod enc Tryd.prog W b1 sp held fuel 56 cs = some x) : ∃ a : Stp, StpAt W a cs := by
  obtain ⟨xs, n, hfn, hx, hl, hlen, hf⟩ := DataW.trod_struct Tryd.underlying56 h
  rw [cells_step] at hl
  obtain ⟨c0, c1, c2, c3, c4, rfl⟩ := cut5 hl
  obtain ⟨y0, y1, y2, y3, y4, rfl⟩ := cut5 hlen
  have g0 := hf 0 _ rfl
  have g1 := hf 1 _ rfl
  have g2 := hf 2 _ rfl
  have g3 := hf 3 _ rfl
  have g4 := hf 4 _ rfl
  obtain ⟨n0, e0, x0, w0⟩ := DataW.trod_int Tryd.underlying3 g0
  obtain ⟨n1, e1, x1, w1⟩ := DataW.trod_int Tryd.underlying3 g1
  obtain ⟨n2, e2, x2⟩ := DataW.trod_bool Tryd.underlying4 g2
  obtain ⟨n3, e3, x3⟩ := DataW.trod_bool Tryd.underlying4 g3
  obtain ⟨A, c, ts, e4, hc, hts⟩ := trod_texts g4
  simp [Qy.cells_int1, cells_bool1, Qy.cells_strs] at e0 e1 e2 e3 e4
  subst e0 e1 e2 e3 e4
  exact ⟨⟨n0, n1, n2, n3, ts⟩, A, c, rfl, hc, hts⟩
set_option maxRecDepth 100000 in
theorem open_steps {fuel : Nat} {cs : List Value} {x : DataW H × List MemPlace} (h : DataW.trod enc Tryd.prog W b1 sp held fuel 47 cs = some x) :
    ∃ (A : Option Addr) (c : Nat) (l : List Stp), cs = [.slice A l.length c] ∧ l.length ≤ c ∧ l.length ≤ 9223372036854775807 ∧ RowAt W A 5 l (StpAt W) := by
  obtain ⟨A, c, l, e, h1, h2, h3, -⟩ := trod_row (C := StpAt W) (G := fun _ => True) (N := 0) Tryd.underlying47 cells_step (by decide) (fun m cs x h => (trod_step h).imp fun a h => ⟨h, fun _ => trivial⟩) (fun a cs h => h.len) h
  exact ⟨A, c, l, e, h1, h2, h3⟩
end
end Go.Proofs.YtbaegfjoionojaaDoor.Qy
