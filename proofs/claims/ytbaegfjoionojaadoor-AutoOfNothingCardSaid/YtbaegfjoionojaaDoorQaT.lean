/- The walk of auto.New. -/
import Derived.Test.YtbaegfjoionojaaDoorQaR
import Derived.Test.YtbaegfjoionojaaDoorQaS
import Derived.Test.YtbaegfjoionojaaDoorQaL
import Derived.Test.YtbaegfjoionojaaDoorQyW
set_option linter.unusedSimpArgs false
set_option linter.unusedVariables false
namespace Go.Proofs.YtbaegfjoionojaaDoor.Qa
open Go Go.RowKit Go.Proofs.YtbaegfjoionojaaDoor.Qy Go.Proofs.YtbaegfjoionojaaDoor.Tm Go.Proofs.YtbaegfjoionojaaDoorW.PrintWords

theorem w_then' {w0 w w1 : World} (h : Below w0.heap.size w0 w) (h2 : Below w.heap.size w w1) : Below w0.heap.size w0 w1 := h.trans (h2.mono h.size)
/-- The rows when i of them have been laid anew. -/
noncomputable def Rws (e : Lx) (i j : Nat) : List Nat := if j < i then e.row j else if j = 0 then e.fi 0 else (e.bf 0 [[]]).getD j []
theorem Rws_mem (e : Lx) (i x : Nat) : x ∈ e.row i ↔ x ∈ Rws e i i := by
  unfold Rws
  rw [if_neg (Nat.lt_irrefl i), e.mem_row]
  unfold Lx.go
  by_cases h : i = 0
  · rw [if_pos h, if_pos h]
  · rw [if_neg h, if_neg h, e.bf_mem i x 0 [[]] rfl]
    cases i with
    | zero => exact absurd rfl h
    | succ k => simp
theorem Rws_other (e : Lx) {i j : Nat} (h : j ≠ i) : Rws e (i + 1) j = Rws e i j := by
  unfold Rws
  by_cases c : j < i
  · rw [if_pos c, if_pos (by omega)]
  · rw [if_neg c, if_neg (by omega)]
theorem Rws_at (e : Lx) (i : Nat) : Rws e (i + 1) i = e.row i := by
  unfold Rws; rw [if_pos (Nat.lt_succ_self i)]
theorem Rws_all (e : Lx) {j : Nat} (h : j ≤ e.n) : Rws e (e.n + 1) j = e.row j := by
  unfold Rws; rw [if_pos (by omega)]
theorem Rws_len (e : Lx) (h : e.sz ≤ 30) (i j : Nat) : (Rws e i j).length ≤ 50000 := by
  unfold Rws
  have h1 := e.row_len j
  have h2 := (e.fi_len 0).1
  have h3 := e.bf_len j 0 [[]] h
  have h4 := e.n_sz
  have h5 : (([[]] : List (List Nat)).getD j []).length = 0 := by
    cases j with
    | zero => rfl
    | succ k => simp
  split
  · omega
  · split <;> omega
/-- An automaton whose rows are being laid anew. -/
structure NInv (w0 : World) (e : Lx) (b gB ab cA cB : Nat) (F : Option Addr) (cF : Nat) (L : Option Addr) (cL : Nat) (i : Nat) (W : World) : Prop where
  bel : Below w0.heap.size w0 W
  blk : W.heap[b]? = some (.cells #[.slice (some ⟨ab, 0, none⟩) e.n cA, .slice (some ⟨gB, 0, none⟩) (e.n + 1) cB, .slice F (e.fi 0).length cF, .slice L (e.la 0).length cL, .bool e.nl] 100 (0, 0))
  lo : w0.heap.size ≤ b ∧ w0.heap.size ≤ gB
  row : ∃ cur : Array Value, W.heap[gB]? = some (.cells cur 71 (0, 0)) ∧ e.n + 1 ≤ cur.size
  at_ : ∀ (j : Nat), j ≤ e.n → ∃ (R : Option Addr) (cR : Nat), W.cell? ⟨gB, j, none⟩ = some (.slice R (Rws e i j).length cR) ∧ IntsAt W (fun g => g ≠ gB) R (Rws e i j)
  al : ab ≠ gB ∧ ∀ (j : Nat) x, e.lv[j]? = some x → ∃ cs, (∀ (k : Nat) u, cs[k]? = some u → W.cell? ⟨ab, j * 3 + k, none⟩ = some u) ∧ AlR W (fun g => g ≠ gB) x cs
  la : IntsAt W (fun g => g ≠ gB) L (e.la 0)
theorem NInv.step {w0 W W3 : World} {e : Lx} {b gB ab cA cB cF cL i : Nat} {F L : Option Addr} (h : NInv w0 e b gB ab cA cB F cF L cL i W) (hi : i ≤ e.n) (hB : Below W.heap.size W W3) {u : Value} (hu : RowI W3 W.heap.size u (e.row i)) :
    NInv w0 e b gB ab cA cB F cF L cL (i + 1) (W3.setCell ⟨gB, i, none⟩ u) := by
  obtain ⟨cur, hg, hc⟩ := h.row
  have hgl := blk_lt hg
  have hbl := blk_lt h.blk
  have hbg : b ≠ gB := blk_ne h.blk hg (by decide)
  have hg3 := blk_below hg hB
  have keep : ∀ g, g < W.heap.size → g ≠ gB → (W3.setCell ⟨gB, i, none⟩ u).heap[g]? = W.heap[g]? := fun g hl hn => (Below.heap_setCell W3 ⟨gB, i, none⟩ u g hn).trans (hB.block g hl)
  obtain ⟨R, cR, rfl, hR1, hR2⟩ := hu.reads
  have cellk : ∀ (g j : Nat) v, g ≠ gB → W.cell? ⟨g, j, none⟩ = some v → (W3.setCell ⟨gB, i, none⟩ (.slice R (e.row i).length cR)).cell? ⟨g, j, none⟩ = some v := fun g j v hn hv =>
    (World.cell?_of_block (keep g (World.block_lt_of_cell? W _ hv) hn)).trans hv
  refine ⟨?_, ?_, h.lo, ?_, ?_, ?_, ?_⟩
  · exact (w_then' h.bel hB).setCell h.lo.2 _
  · exact (keep b hbl hbg).trans h.blk
  · exact ⟨_, blk_set hg3 i _, by simpa using hc⟩
  · intro j hj
    by_cases c : j = i
    · subst c
      rw [Rws_at]
      refine ⟨R, cR, ?_, ?_⟩
      · rw [blk_cell (blk_set hg3 j _) j]
        simp [show j < cur.size by omega]
      · refine IntsAt.move (ok := fun g => g ≠ gB) (fun k hk hl => Below.heap_setCell W3 ⟨gB, j, none⟩ _ k hk) (hR2.mono (fun k hk _ => ?_))
        have := own_base hu k hk
        omega
    · rw [Rws_other e c]
      obtain ⟨R', cR', k1, k3⟩ := h.at_ j hj
      refine ⟨R', cR', ?_, k3.move (fun k hk hl => keep k hl hk)⟩
      rw [blk_cell (blk_set hg3 i _) j]
      rw [blk_cell hg j] at k1
      rw [← k1]
      simp [Array.getElem?_setIfInBounds, show ¬ i = j from fun e => c e.symm]
  · refine ⟨h.al.1, fun j x hx => ?_⟩
    obtain ⟨cs, k1, k2⟩ := h.al.2 j x hx
    exact ⟨cs, fun k u hu => cellk ab _ u h.al.1 (k1 k u hu), k2.move (fun k hk hl => ⟨keep k hl hk, hk⟩)⟩
  · exact h.la.move (fun k hk hl => keep k hl hk)
/-- A draw turns nothing. -/
theorem NInv.moved {w0 W W' : World} {e : Lx} {b gB ab cA cB cF cL i : Nat} {F L : Option Addr} (h : NInv w0 e b gB ab cA cB F cF L cL i W) (hm : ∀ g : Nat, W'.heap[g]? = W.heap[g]?) (hb : Below w0.heap.size w0 W') : NInv w0 e b gB ab cA cB F cF L cL i W' := by
  have hc : ∀ (a : Addr) v, W.cell? a = some v → W'.cell? a = some v := fun a v hv => (World.cell?_of_block (hm a.block)).trans hv
  refine ⟨hb, (hm b).trans h.blk, h.lo, ?_, fun j hj => ?_, ⟨h.al.1, fun j x hx => ?_⟩, h.la.move (fun k _ _ => hm k)⟩
  · obtain ⟨cur, h1, h2⟩ := h.row
    exact ⟨cur, (hm gB).trans h1, h2⟩
  · obtain ⟨R, cR, k1, k3⟩ := h.at_ j hj
    exact ⟨R, cR, hc _ _ k1, k3.move (fun k _ _ => hm k)⟩
  · obtain ⟨cs, k1, k2⟩ := h.al.2 j x hx
    exact ⟨cs, fun k u hu => hc _ _ (k1 k u hu), k2.move (fun k hk _ => ⟨hm k, hk⟩)⟩
theorem NInv.done {w0 W : World} {e : Lx} {b gB ab cA cB cF cL : Nat} {F L : Option Addr} (h : NInv w0 e b gB ab cA cB F cF L cL (e.n + 1) W) : AutF W b e := by
  refine ⟨some ⟨ab, 0, none⟩, cA, gB, cB, F, cF, L, cL, h.blk, fun j x hx => ?_, fun i hi => ?_, h.la.mono (fun _ _ _ => trivial)⟩
  · obtain ⟨cs, k1, k2⟩ := h.al.2 j x hx
    exact ⟨ab, 0, cs, rfl, fun k u hu => by rw [Nat.zero_add]; exact k1 k u hu, k2.move (fun k hk hl => ⟨rfl, trivial⟩)⟩
  · obtain ⟨R, cR, k1, k3⟩ := h.at_ i hi
    rw [Rws_all e hi] at k1 k3
    exact ⟨R, cR, k1, k3.mono (fun _ _ _ => trivial)⟩
/-- How it begins: the part laid into the automaton, its first places behind the beginning. -/
theorem NInv.start {w0 w4 : World} {e : Lx} {b : Nat} {vA vB : Value} {inA bs : List Value} {c2 c3 c4 : Value} {F L : Option Addr} {cF cL : Nat} (hV : AutV w4 w0.heap.size b vA vB inA bs e.lv (e.bf 0 [[]]) c2 c3 c4) (hB : Below w0.heap.size w0 w4)
    (hf : IntsAt w4 (fun g => ¬ ownS b vA vB bs g) F (e.fi 0)) (hl : IntsAt w4 (fun g => ¬ ownS b vA vB bs g) L (e.la 0)) :
    ∃ ab cA gB cB, vA = .slice (some ⟨ab, 0, none⟩) e.n cA ∧ vB = .slice (some ⟨gB, 0, none⟩) (e.n + 1) cB ∧ b ≠ gB ∧ NInv w0 e b gB ab cA cB F cF L cL 0 ((((w4.setCell ⟨b, 2, none⟩ (.slice F (e.fi 0).length cF)).setCell ⟨b, 3, none⟩ (.slice L (e.la 0).length cL)).setCell ⟨b, 4, none⟩ (.bool e.nl)).setCell ⟨gB, 0, none⟩ (.slice F (e.fi 0).length cF)) := by
  have hlen : (e.bf 0 [[]]).length = e.n + 1 := by rw [Lx.bf_length]; simp; omega
  obtain ⟨ab, cA, hA, -⟩ := hV.oA.form (show 0 < e.lv.length from e.pos)
  obtain ⟨gB, cB, hBv, -⟩ := hV.oB.form (show 0 < (e.bf 0 [[]]).length by omega)
  rw [hlen] at hBv
  subst hA hBv
  have hbg : b ≠ gB := fun h => hV.b_ne.2.1 (by rw [h]; rfl)
  have habg : ab ≠ gB := fun h => own_apart hV.oA hV.oB (by decide) (k := ab) rfl (by rw [h]; rfl)
  have hgS : ownS b (.slice (some ⟨ab, 0, none⟩) e.n cA) (.slice (some ⟨gB, 0, none⟩) (e.n + 1) cB) bs gB := Or.inr (Or.inr (Or.inl rfl))
  obtain ⟨w5, hw5⟩ : ∃ x, x = ((w4.setCell ⟨b, 2, none⟩ (.slice F (e.fi 0).length cF)).setCell ⟨b, 3, none⟩ (.slice L (e.la 0).length cL)).setCell ⟨b, 4, none⟩ (.bool e.nl) := ⟨_, rfl⟩
  have blk5 : w5.heap[b]? = some (.cells #[.slice (some ⟨ab, 0, none⟩) e.n cA, .slice (some ⟨gB, 0, none⟩) (e.n + 1) cB, .slice F (e.fi 0).length cF, .slice L (e.la 0).length cL, .bool e.nl] 100 (0, 0)) := by
    rw [hw5]; exact blk_set (blk_set (blk_set hV.blk 2 _) 3 _) 4 _
  have far5 : ∀ g, g ≠ b → w5.heap[g]? = w4.heap[g]? := fun g hg => by
    rw [hw5]
    exact ((Below.heap_setCell _ ⟨b, 4, none⟩ _ g hg).trans (Below.heap_setCell _ ⟨b, 3, none⟩ _ g hg)).trans (Below.heap_setCell _ ⟨b, 2, none⟩ _ g hg)
  have bel5 : Below w0.heap.size w0 w5 := by
    rw [hw5]
    exact ((hB.setCell hV.hN _).setCell hV.hN _).setCell hV.hN _
  rw [← hw5]
  have hgN : w0.heap.size ≤ gB := (hV.S_lt hgS).1
  obtain ⟨cur, hcur, hcs, hct⟩ : ∃ cur : Array Value, w4.heap[gB]? = some (.cells cur 71 (0, 0)) ∧ e.n + 1 ≤ cur.size ∧ cur.toList.take (e.n + 1) = bs := by
    rcases hV.oB.2 with ⟨h', _⟩ | ⟨g', cap', cur, h', _, hh, k1, _, k3, k4⟩
    · cases h'
    · have e1 : gB = g' := by injection h' with h'; injection h' with h'; injection h' with h'
      have e2 : (e.bf 0 [[]]).length = e.n + 1 := hlen
      subst e1
      exact ⟨cur, hh, by omega, by rw [← k4, e2, Nat.mul_one]⟩
  have keep : ∀ g, g ≠ b → g ≠ gB → (w5.setCell ⟨gB, 0, none⟩ (.slice F (e.fi 0).length cF)).heap[g]? = w4.heap[g]? := fun g h1 h2 => (Below.heap_setCell w5 ⟨gB, 0, none⟩ _ g h2).trans (far5 g h1)
  have hcur5 := (far5 gB (fun h => hbg h.symm)).trans hcur
  have notS : ∀ g, ¬ ownS b (.slice (some ⟨ab, 0, none⟩) e.n cA) (.slice (some ⟨gB, 0, none⟩) (e.n + 1) cB) bs g → g ≠ b ∧ g ≠ gB := fun g hg => ⟨fun h => hg (Or.inl h), fun h => hg (h ▸ hgS)⟩
  have mv : ∀ {A : Option Addr} {xs : List Nat}, IntsAt w4 (fun g => ¬ ownS b (.slice (some ⟨ab, 0, none⟩) e.n cA) (.slice (some ⟨gB, 0, none⟩) (e.n + 1) cB) bs g) A xs → IntsAt (w5.setCell ⟨gB, 0, none⟩ (.slice F (e.fi 0).length cF)) (fun g => g ≠ gB) A xs := fun hi =>
    (hi.move (fun k hk hl => keep k (notS k hk).1 (notS k hk).2)).mono (fun k hk _ => (notS k hk).2)
  refine ⟨ab, cA, gB, cB, rfl, rfl, hbg, ⟨bel5.setCell hgN _, blk_far blk5 hbg _, ⟨hV.hN, hgN⟩, ⟨_, blk_set hcur5 0 _, by simpa using hcs⟩, fun j hj => ?_, ⟨habg, fun j x hx => ?_⟩, mv hl⟩⟩
  · by_cases c : j = 0
    · subst c
      refine ⟨F, cF, ?_, by unfold Rws; rw [if_neg (by omega), if_pos rfl]; exact mv hf⟩
      rw [blk_cell (blk_set hcur5 0 _) 0]
      unfold Rws
      rw [if_neg (by omega), if_pos rfl]
      simp [show 0 < cur.size by omega]
    · obtain ⟨u, hu⟩ : ∃ u, bs[j]? = some u := ⟨bs[j]'(by have := hV.len; omega), List.getElem?_eq_getElem _⟩
      have hrow := hV.rB j u hu
      obtain ⟨R, cR, rfl, -, hi⟩ := hrow.reads
      have e1 : Rws e 0 j = (e.bf 0 [[]]).getD j [] := by unfold Rws; rw [if_neg (by omega), if_neg c]
      rw [e1]
      refine ⟨R, cR, ?_, ?_⟩
      · rw [blk_cell (blk_set hcur5 0 _) j]
        have h6 := hu
        rw [← hct, List.getElem?_take_of_lt (by omega), Array.getElem?_toList] at h6
        rw [← h6]
        simp [Array.getElem?_setIfInBounds, show ¬ 0 = j from fun e => c e.symm]
      · refine (hi.mono (ok' := fun g => g ≠ b ∧ g ≠ gB) (fun k hk _ => ⟨fun h => ?_, fun h => ?_⟩)).move (fun k hk hl => keep k hk.1 hk.2) |>.mono (fun k hk _ => hk.2)
        · exact hV.b_ne.2.2 j _ hu (by rw [← h]; exact hk.symm)
        · exact own_apart hV.oB hrow (by decide) (k := gB) rfl (by rw [← h]; exact hk)
  · have hr := hV.rA.2 j x hx
    have hj := (List.getElem?_eq_some_iff.1 hx).1
    refine ⟨(inA.drop (j * 3)).take 3, fun k u hu => ?_, hr.move (fun k hk hl => ⟨keep k (notS k hk).1 (notS k hk).2, (notS k hk).2⟩)⟩
    have h1 : inA[j * 3 + k]? = some u := by
      rw [List.getElem?_take] at hu
      split at hu
      · rwa [List.getElem?_drop] at hu
      · cases hu
    have h2 := hV.oA.cells (g := ab) rfl _ u h1
    rw [add_plain] at h2
    exact (World.cell?_of_block (keep ab (fun h => hV.b_ne.1 (by rw [← h]; rfl)) habg)).trans h2
end Go.Proofs.YtbaegfjoionojaaDoor.Qa
