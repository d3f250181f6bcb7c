/- An argument that is a term: opened, and shut. -/
import Derived.Test.YtbaegfjoionojaaDoorTmE
import Derived.OpenShut
import Derived.ShutString
import Derived.ChangeOld
import Derived.ChangeSame
import Derived.WideShapes
import Derived.ChangeAt
set_option linter.unusedSimpArgs false
set_option linter.unusedVariables false
namespace Go.Proofs.YtbaegfjoionojaaDoor.Tm
open Go Go.RowKit Go.ChangeShapes Go.WideShapes Go.ChangeAt Go.Proofs.YtbaegfjoionojaaDoorW.PrintWords
variable {H : Type} {enc : TypeId × Value → H} {W : World} {base b1 : Nat} {sp : Nat → Bool} {held : Bool}

def Trm.wf (a : Trm) : Prop := (Lit.int .i64 a.k).wf = true ∧ a.t.size ≤ maxLen ∧ a.x.size ≤ maxLen
def Trm.dat (a : Trm) : DataW H := .agg [.lit (.int .i64 a.k), .lit (.string a.t.data.toList), .lit (.string a.x.data.toList)]
theorem cells_term : Tryd.prog.cellsOf 74 = 3 := by kernel_rfl
theorem cells_int1 : Tryd.prog.cellsOf 3 = 1 := by kernel_rfl
theorem cells_str1 : Tryd.prog.cellsOf 9 = 1 := by kernel_rfl
set_option maxRecDepth 100000 in
theorem trod_term {fuel : Nat} {cs : List Value} {x : DataW H × List MemPlace} (h : DataW.trod enc Tryd.prog W b1 sp held fuel 74 cs = some x) :
    ∃ a : Trm, cs = [.int .i64 a.k, .string a.t, .string a.x] ∧ x = (a.dat, []) ∧ a.wf := by
  obtain ⟨xs, n, _, hx, hl, hlen, hf⟩ := DataW.trod_struct Tryd.underlying74 h
  rw [cells_term] at hl
  obtain ⟨c0, c1, c2, rfl⟩ : ∃ c0 c1 c2, cs = [c0, c1, c2] := by
    rcases cs with _ | ⟨a, _ | ⟨b, _ | ⟨c, _ | ⟨d, l⟩⟩⟩⟩
    · cases hl
    · cases hl
    · cases hl
    · exact ⟨a, b, c, rfl⟩
    · simp at hl
  obtain ⟨y0, y1, y2, rfl⟩ : ∃ y0 y1 y2, xs = [y0, y1, y2] := by
    rcases xs with _ | ⟨a, _ | ⟨b, _ | ⟨c, _ | ⟨d, l⟩⟩⟩⟩
    · cases hlen
    · cases hlen
    · cases hlen
    · exact ⟨a, b, c, rfl⟩
    · simp at hlen
  have g0 := hf 0 _ rfl
  have g1 := hf 1 _ rfl
  have g2 := hf 2 _ rfl
  obtain ⟨n0, e0, x0, w0⟩ := DataW.trod_int Tryd.underlying3 g0
  obtain ⟨n1, e1, x1, w1⟩ := DataW.trod_string Tryd.underlying9 g1
  obtain ⟨n2, e2, x2, w2⟩ := DataW.trod_string Tryd.underlying9 g2
  simp [cells_int1, cells_str1] at e0 e1 e2
  subst e0 e1 e2 x0 x1 x2
  exact ⟨⟨n0, n1, n2⟩, rfl, by rw [hx]; rfl, w0, w1, w2⟩
set_option maxRecDepth 100000 in
theorem open_term {v : Value} {d : DataW H} {ps : List MemPlace} (hval : Value.okWide Tryd.prog W .any base 74 v) (hd : DataW.Trod enc Tryd.prog W b1 sp held 74 v d ps) :
    ∃ a : Trm, v = a.val ∧ d = a.dat ∧ ps = [] ∧ a.wf := by
  obtain ⟨cs, rfl, h2⟩ := okWide_struct Tryd.underlying74 hval
  obtain ⟨fuel, hf⟩ := hd
  obtain ⟨a, e, hx, hw⟩ := trod_term hf
  simp only [Prod.mk.injEq] at hx
  refine ⟨a, ?_, hx.1, hx.2, hw⟩
  have : cs.toList = [.int .i64 a.k, .string a.t, .string a.x] := by simpa [Value.cells] using e
  unfold Trm.val
  congr 1
  exact Array.ext' this
set_option maxRecDepth 100000 in
theorem shut_term {a : Trm} (hw : a.wf) : DataW.Trod enc Tryd.prog W b1 sp held 74 a.val a.dat [] := by
  obtain ⟨w0, w1, w2⟩ := hw
  refine ⟨2, ?_⟩
  unfold Trm.val Trm.dat
  have := trod_struct_mk (enc := enc) (P := Tryd.prog) (w := W) (base := b1) (spare := sp) (held := held) (n := 1) (cs := [.int .i64 a.k, .string a.t, .string a.x]) (xs := [(.lit (.int .i64 a.k), []), (.lit (.string a.t.data.toList), []), (.lit (.string a.x.data.toList), [])]) Tryd.underlying74 (by rw [cells_term]; rfl) (by
    simp [cells_int1, cells_str1, DataW.trod, Tryd.underlying3, Tryd.underlying9, w0, w1, w2])
  simpa [Value.cells] using this
end Go.Proofs.YtbaegfjoionojaaDoor.Tm
