/- An argument that is a path: opened. -/
import Derived.Test.YtbaegfjoionojaaDoorQyP
import Derived.OpenShut
import Derived.ShutString
import Derived.ChangeOld
import Derived.ChangeSame
import Derived.WideShapes
import Derived.ChangeAt
set_option linter.unusedSimpArgs false
set_option linter.unusedVariables false
namespace Go.Proofs.YtbaegfjoionojaaDoor.Qy
open Go Go.RowKit Go.ChangeShapes Go.WideShapes Go.ChangeAt Go.Proofs.YtbaegfjoionojaaDoorW.PrintWords
variable {H : Type} {enc : TypeId × Value → H} {W : World} {base b1 : Nat} {sp : Nat → Bool} {held : Bool}

theorem cells_path : Tryd.prog.cellsOf 25 = 4 := by kernel_rfl
theorem cells_int1 : Tryd.prog.cellsOf 3 = 1 := by kernel_rfl
theorem cells_str1 : Tryd.prog.cellsOf 9 = 1 := by kernel_rfl
theorem cells_strs : Tryd.prog.cellsOf 22 = 1 := by kernel_rfl
theorem cells_paths : Tryd.prog.cellsOf 23 = 1 := by kernel_rfl
def anyB : Nat → Prop := fun _ => True
theorem add_add (a : Addr) (i j : Nat) : (a.add i).add j = a.add (i + j) := by
  unfold Addr.add
  by_cases c : i = 0
  · subst c; simp
  · by_cases d : j = 0
    · subst d; simp
    · rw [if_neg c, if_neg d, if_neg (by omega)]
      simp [Nat.add_assoc]
theorem spot_none {w : World} {a : Addr} {v : Value} (h : w.cell? a = some v) : a = ⟨a.block, a.off, none⟩ := by
  obtain ⟨b, o, sp⟩ := a
  cases sp with
  | none => rfl
  | some x =>
    unfold World.cell? at h
    simp at h
    split at h <;> cases h
theorem add_at (b o i : Nat) : (⟨b, o, none⟩ : Addr).add i = ⟨b, o + i, none⟩ := by
  unfold Addr.add
  split
  · rename_i h; subst h; rfl
  · rfl
/-- Rows of what is known of each place. -/
theorem list_of {α : Type} {C : Nat → α → Prop} : ∀ n, (∀ i, i < n → ∃ a, C i a) → ∃ l : List α, l.length = n ∧ ∀ i a, l[i]? = some a → C i a
  | 0, _ => ⟨[], rfl, fun i a h => by cases h⟩
  | n + 1, h => by
    obtain ⟨l, hl, hc⟩ := list_of n (fun i hi => h i (by omega))
    obtain ⟨a, ha⟩ := h n (by omega)
    refine ⟨l ++ [a], by simp [hl], fun i b hb => ?_⟩
    rcases Nat.lt_or_ge i l.length with hi | hi
    · rw [List.getElem?_append_left hi] at hb
      exact hc i b hb
    · rw [List.getElem?_append_right hi] at hb
      have hik : i - l.length = 0 := by
        rcases Nat.eq_zero_or_pos (i - l.length) with h | h
        · exact h
        · rw [List.getElem?_eq_none (by simp; omega)] at hb; cases hb
      rw [hik] at hb
      obtain rfl : a = b := Option.some.inj hb
      obtain rfl : i = n := by omega
      exact ha
theorem trod_texts {fuel : Nat} {cs : List Value} {x : DataW H × List MemPlace} (h : DataW.trod enc Tryd.prog W b1 sp held fuel 22 cs = some x) :
    ∃ A c ts, cs = [.slice A ts.length c] ∧ ts.length ≤ c ∧ TsAt W anyB A ts := by
  rcases DataW.trod_slice Tryd.underlying22 h with ⟨h0, _⟩ | ⟨a, len, cap, elems, rest, n, _, rfl, _, hb, hl, hm, hlen, hel, hrest⟩
  · exact ⟨none, 0, [], h0, by simp, by simp, fun h => by simp at h⟩
  · have each : ∀ i, i < len → ∃ t : ByteArray, W.cell? (a.add i) = some (.string t) := by
      intro i hi
      have hy := hel i hi
      rw [cells_str1, List.getElem?_eq_getElem (by omega), Option.bind_eq_some_iff] at hy
      obtain ⟨cs', hc1, hc2⟩ := hy
      obtain ⟨g1, g2, g3⟩ := World.cells?_some hc1
      obtain ⟨t, e, _, _⟩ := DataW.trod_string Tryd.underlying9 hc2
      subst e
      have := g3 0 (by simp)
      rw [add_add] at this
      exact ⟨t, by simpa using this⟩
    obtain ⟨ts, e, hts⟩ := list_of len each
    refine ⟨some a, cap, ts, by rw [e], by omega, by unfold maxLen at hm; omega, fun h0 => ?_⟩
    have ha := spot_none (hts 0 _ (List.getElem?_eq_getElem h0))
    rw [show a.add 0 = a from rfl] at ha
    refine ⟨a.block, a.off, by rw [← ha], trivial, fun j t ht => ?_⟩
    have := hts j t ht
    rw [ha, add_at] at this
    exact this
set_option maxRecDepth 100000 in
theorem trod_path : ∀ (fuel : Nat) {cs : List Value} {x : DataW H × List MemPlace} (h : DataW.trod enc Tryd.prog W b1 sp held fuel 25 cs = some x), ∃ p, PathAt W anyB p cs := by
  intro fuel
  induction fuel using Nat.strongRecOn with
  | ind fuel ih =>
  intro cs x h
  obtain ⟨xs, n, hfn, hx, hl, hlen, hf⟩ := DataW.trod_struct Tryd.underlying25 h
  rw [cells_path] at hl
  obtain ⟨c0, c1, c2, c3, rfl⟩ : ∃ c0 c1 c2 c3, cs = [c0, c1, c2, c3] := by
    rcases cs with _ | ⟨a, _ | ⟨b, _ | ⟨c, _ | ⟨d, _ | ⟨e, l⟩⟩⟩⟩⟩
    · cases hl
    · cases hl
    · cases hl
    · cases hl
    · exact ⟨a, b, c, d, rfl⟩
    · simp at hl
  obtain ⟨y0, y1, y2, y3, rfl⟩ : ∃ y0 y1 y2 y3, xs = [y0, y1, y2, y3] := by
    rcases xs with _ | ⟨a, _ | ⟨b, _ | ⟨c, _ | ⟨d, _ | ⟨e, l⟩⟩⟩⟩⟩
    · cases hlen
    · cases hlen
    · cases hlen
    · cases hlen
    · exact ⟨a, b, c, d, rfl⟩
    · simp at hlen
  have g0 := hf 0 _ rfl
  have g1 := hf 1 _ rfl
  have g2 := hf 2 _ rfl
  have g3 := hf 3 _ rfl
  obtain ⟨n0, e0, x0, w0⟩ := DataW.trod_int Tryd.underlying3 g0
  obtain ⟨n1, e1, x1, w1⟩ := DataW.trod_string Tryd.underlying9 g1
  obtain ⟨A, c, ts, e2, hc, hts⟩ := trod_texts g2
  simp [cells_int1, cells_str1, cells_strs] at e0 e1 e2
  subst e0 e1 e2
  rcases DataW.trod_slice Tryd.underlying23 g3 with ⟨h0, _⟩ | ⟨a, len, cap, elems, rest, m, hm1, e3, _, hb, hl, hm, hlen2, hel, hrest⟩
  · simp [cells_paths] at h0
    subst h0
    refine ⟨.mk n0 n1 ts [], ?_⟩
    unfold PathAt
    exact ⟨A, c, none, 0, rfl, hc, by simp, by simp, hts, by unfold KidsAt; trivial⟩
  · simp [cells_paths] at e3
    subst e3
    have each : ∀ i, i < len → ∃ q : Pth, ∃ cs', (∀ (j : Nat) u, cs'[j]? = some u → W.cell? (a.add (i * 4 + j)) = some u) ∧ PathAt W anyB q cs' := by
      intro i hi
      have hy := hel i hi
      rw [cells_path, List.getElem?_eq_getElem (by omega), Option.bind_eq_some_iff] at hy
      obtain ⟨cs', hc1, hc2⟩ := hy
      obtain ⟨k1, k2, k3⟩ := World.cells?_some hc1
      obtain ⟨q, hq⟩ := ih m (by omega) hc2
      refine ⟨q, cs', fun j u hu => ?_, hq⟩
      have hj : j < 4 := by
        rcases Nat.lt_or_ge j 4 with h | h
        · exact h
        · rw [List.getElem?_eq_none (by rw [hq.len]; omega)] at hu; cases hu
      have := k3 j hj
      rw [add_add] at this
      rw [this]; exact hu
    obtain ⟨ks, e, hks⟩ := list_of len each
    refine ⟨.mk n0 n1 ts ks, ?_⟩
    unfold PathAt
    refine ⟨A, c, some a, cap, by rw [e], hc, by omega, by unfold maxLen at hm; omega, hts, KidsAt.of ks fun i q hq => ?_⟩
    obtain ⟨cs', h1, h2⟩ := hks i q hq
    have ha : a = ⟨a.block, a.off, none⟩ := by
      obtain ⟨cs0, k1, k2⟩ := hks 0 _ (List.getElem?_eq_getElem (show 0 < ks.length by have := (List.getElem?_eq_some_iff.1 hq).1; omega))
      obtain ⟨u0, hu0⟩ : ∃ u, cs0[0]? = some u := ⟨cs0[0]'(by rw [k2.len]; decide), List.getElem?_eq_getElem _⟩
      have := k1 0 u0 hu0
      exact spot_none (show W.cell? a = some u0 from this)
    refine ⟨a.block, a.off, cs', by rw [← ha], trivial, fun j u hu => ?_, h2⟩
    have := h1 j u hu
    rw [ha, add_at] at this
    rw [Nat.zero_add, Nat.add_assoc]
    exact this
set_option maxRecDepth 100000 in
theorem open_path {v : Value} {d : DataW H} {ps : List MemPlace} (hval : Value.okWide Tryd.prog W .any base 25 v) (hd : DataW.Trod enc Tryd.prog W b1 sp held 25 v d ps) :
    ∃ (p : Pth) (cs : List Value), v = .agg cs.toArray ∧ PathAt W anyB p cs := by
  obtain ⟨cs, rfl, h2⟩ := okWide_struct Tryd.underlying25 hval
  obtain ⟨fuel, hf⟩ := hd
  obtain ⟨p, hp⟩ := trod_path fuel hf
  exact ⟨p, cs.toList, by simp, by simpa [Value.cells] using hp⟩
end Go.Proofs.YtbaegfjoionojaaDoor.Qy
