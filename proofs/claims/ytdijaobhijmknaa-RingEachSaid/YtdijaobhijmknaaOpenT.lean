/- An argument that is a triple, and one that is a row of triples: opened, and shut. -/
import Derived.Test.YtdijaobhijmknaaRingM
import Derived.Laws.IdiomArrays
set_option linter.unusedSimpArgs false
set_option linter.unusedVariables false
namespace Go.Proofs.Ytdijaobhijmknaa.Rg
open Go Go.RowKit Go.ChangeShapes Go.Proofs.YtdijaobhijmknaaW.PrintWords
variable {H : Type} {enc : TypeId × Value → H} {W : World} {base b1 : Nat} {sp : Nat → Bool} {held : Bool}

/-- Each number of a triple is one. -/
def Tri.wf (t : Tri) : Prop := (Lit.int .i64 t.s).wf = true ∧ (Lit.int .i64 t.p).wf = true ∧ (Lit.int .i64 t.o).wf = true
def Tri.dat (t : Tri) : DataW H := .agg [.lit (.int .i64 t.s), .lit (.int .i64 t.p), .lit (.int .i64 t.o)]
theorem cells_tri : Try.prog.cellsOf 54 = 3 := by kernel_rfl
theorem cells_int1 : Try.prog.cellsOf 3 = 1 := by kernel_rfl
theorem trod_tri {fuel : Nat} {cs : List Value} {x : DataW H × List MemPlace} (hl : cs.length = 3) (h : DataW.trod enc Try.prog W b1 sp held fuel 54 cs = some x) :
    ∃ t : Tri, cs = t.cells ∧ x = (t.dat, []) ∧ t.wf := by
  obtain ⟨c0, c1, c2, rfl⟩ : ∃ c0 c1 c2, cs = [c0, c1, c2] := by
    rcases cs with _ | ⟨a, _ | ⟨b, _ | ⟨c, _ | ⟨d, l⟩⟩⟩⟩
    · cases hl
    · cases hl
    · cases hl
    · exact ⟨a, b, c, rfl⟩
    · simp at hl
  obtain ⟨y0, y1, y2, n, hx, g0, g1, g2⟩ := trod_array3 Try.underlying54 cells_int1 h
  obtain ⟨n0, e0, x0, w0⟩ := DataW.trod_int Try.underlying3 g0
  obtain ⟨n1, e1, x1, w1⟩ := DataW.trod_int Try.underlying3 g1
  obtain ⟨n2, e2, x2, w2⟩ := DataW.trod_int Try.underlying3 g2
  injection e0 with e0 _
  injection e1 with e1 _
  injection e2 with e2 _
  subst e0 e1 e2 x0 x1 x2
  exact ⟨⟨n0, n1, n2⟩, rfl, by rw [hx]; rfl, w0, w1, w2⟩
theorem okWide_array {P : Program} {r : Reach} {t e : TypeId} {n : Nat} {v : Value} (ht : P.underlying t = some (.array n e)) (h : Value.okWide P W r base t v) : ∃ cs : Array Value, v = .agg cs ∧ cs.size = P.cellsOf t := by
  simp only [Value.okWide, ht] at h
  obtain ⟨cs, h1, h2, _⟩ := h
  exact ⟨cs, h1, h2⟩
theorem open_tri_of {P : Program} {r : Reach} {T : TypeId} {v : Value} {d : DataW H} {ps : List MemPlace} (ht : ∃ e, P.underlying T = some (.array 3 e)) (hc : P.cellsOf T = 3)
    (hk : ∀ (fuel : Nat) (cs : List Value) (x : DataW H × List MemPlace), cs.length = 3 → DataW.trod enc P W b1 sp held fuel T cs = some x → ∃ t : Tri, cs = t.cells ∧ x = (t.dat, []) ∧ t.wf)
    (hval : Value.okWide P W r base T v) (hd : DataW.Trod enc P W b1 sp held T v d ps) :
    ∃ t : Tri, v = t.val ∧ d = t.dat ∧ ps = [] ∧ t.wf := by
  obtain ⟨e, ht⟩ := ht
  obtain ⟨cs, rfl, h2⟩ := okWide_array ht hval
  obtain ⟨fuel, hf⟩ := hd
  rw [hc] at h2
  obtain ⟨t, e, hx, hw⟩ := hk fuel _ _ (by simpa [Value.cells] using h2) hf
  simp only [Prod.mk.injEq] at hx
  refine ⟨t, ?_, hx.1, hx.2, hw⟩
  have : cs.toList = t.cells := by simpa [Value.cells] using e
  unfold Tri.val
  congr 1
  exact Array.ext' this
set_option maxRecDepth 100000 in
theorem open_tri {v : Value} {d : DataW H} {ps : List MemPlace} (hval : Value.okWide Try.prog W .any base 54 v) (hd : DataW.Trod enc Try.prog W b1 sp held 54 v d ps) :
    ∃ t : Tri, v = t.val ∧ d = t.dat ∧ ps = [] ∧ t.wf :=
  open_tri_of ⟨_, Try.underlying54⟩ cells_tri (fun _ _ _ hl h => trod_tri hl h) hval hd
theorem shut_tri {t : Tri} (hw : t.wf) : DataW.Trod enc Try.prog W b1 sp held 54 t.val t.dat [] := by
  obtain ⟨w0, w1, w2⟩ := hw
  refine ⟨2, ?_⟩
  have r3 : List.range 3 = [0, 1, 2] := rfl
  unfold Tri.val Tri.dat
  unfold DataW.trod
  simp [Value.cells, Try.underlying54, Try.underlying3, r3, cells_tri, cells_int1, DataW.trod, w0, w1, w2]
theorem add_add (a : Addr) (i j : Nat) : (a.add i).add j = a.add (i + j) := by
  unfold Addr.add
  by_cases c : i = 0
  · subst c; simp
  · by_cases d : j = 0
    · subst d; simp
    · rw [if_neg c, if_neg d, if_neg (by omega)]
      simp [Nat.add_assoc]
/-- A row of triples that came in. -/
theorem open_tris {fuel : Nat} {cs : List Value} {x : DataW H × List MemPlace} (h : DataW.trod enc Try.prog W b1 sp held fuel 52 cs = some x) :
    ∃ A c ts, cs = [.slice A ts.length c] ∧ ts.length ≤ c ∧ Kd.C kT W A ts.length ts ∧ ∀ t ∈ ts, Tri.wf t := by
  rcases DataW.trod_slice Try.underlying52 h with ⟨h0, _⟩ | ⟨a, len, cap, elems, rest, n, _, rfl, _, hb, hl, hm, hlen, hel, hrest⟩
  · exact ⟨none, 0, [], h0, by simp, Kd.C_nil kT W, fun t ht => by cases ht⟩
  · have each : ∀ i, i < len → ∃ t : Tri, t.wf ∧ ∀ j u, t.cells[j]? = some u → W.cell? (a.add (i * 3 + j)) = some u := by
      intro i hi
      have hy := hel i hi
      rw [cells_tri, List.getElem?_eq_getElem (by omega), Option.bind_eq_some_iff] at hy
      obtain ⟨cs', hc1, hc2⟩ := hy
      obtain ⟨g1, g2, g3⟩ := World.cells?_some hc1
      obtain ⟨t, e, _, hw⟩ := trod_tri g2 hc2
      subst e
      refine ⟨t, hw, fun j u hu => ?_⟩
      have hj : j < 3 := by
        rcases Nat.lt_or_ge j 3 with h | h
        · exact h
        · rw [List.getElem?_eq_none (by simpa [Tri.cells] using h)] at hu; cases hu
      have := g3 j hj
      rw [add_add] at this
      rw [this]; exact hu
    have : ∃ ts : List Tri, ts.length = len ∧ ∀ i t, ts[i]? = some t → t.wf ∧ ∀ j u, t.cells[j]? = some u → W.cell? (a.add (i * 3 + j)) = some u := by
      clear hrest hel hlen h hl
      induction len with
      | zero => exact ⟨[], rfl, fun i t ht => by simp at ht⟩
      | succ k ih =>
        obtain ⟨ts, e, hts⟩ := ih (fun i hi => each i (by omega))
        obtain ⟨t, hw, hc⟩ := each k (by omega)
        refine ⟨ts ++ [t], by simp [e], fun i u hu => ?_⟩
        rcases Nat.lt_or_ge i ts.length with hi | hi
        · rw [List.getElem?_append_left hi] at hu
          exact hts i u hu
        · rw [List.getElem?_append_right hi] at hu
          have hik : i - ts.length = 0 := by
            rcases Nat.eq_zero_or_pos (i - ts.length) with h | h
            · exact h
            · rw [List.getElem?_eq_none (by simp; omega)] at hu; cases hu
          rw [hik] at hu
          simp only [List.getElem?_cons_zero, Option.some.injEq] at hu
          subst hu
          have : i = k := by omega
          subst this
          exact ⟨hw, hc⟩
    obtain ⟨ts, e, hts⟩ := this
    refine ⟨some a, cap, ts, by rw [e], by omega, ⟨rfl, by unfold maxLen at hm; omega, fun _ => ⟨a, rfl, fun j p hp => ⟨p.cells, rfl, rfl, (hts j p hp).2⟩⟩⟩, fun t ht => ?_⟩
    obtain ⟨k, hk, rfl⟩ := List.getElem_of_mem ht
    exact (hts k _ (List.getElem?_eq_getElem hk)).1
end Go.Proofs.Ytdijaobhijmknaa.Rg
