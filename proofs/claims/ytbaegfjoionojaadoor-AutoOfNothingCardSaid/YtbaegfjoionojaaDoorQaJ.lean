/- An automaton that is done, as it lies in the memory; its steps. -/
import Derived.Test.YtbaegfjoionojaaDoorQaI
import Derived.Test.YtbaegfjoionojaaDoorQaA
set_option linter.unusedSimpArgs false
set_option linter.unusedVariables false
namespace Go.Proofs.YtbaegfjoionojaaDoor.Qa
open Go Go.RowKit Go.Proofs.YtbaegfjoionojaaDoor.Qy Go.Proofs.YtbaegfjoionojaaDoor.Tm Go.Proofs.YtbaegfjoionojaaDoorW.PrintWords

def noA : Alng := ⟨[], false, false⟩
def Lx.x (e : Lx) (j : Nat) : Alng := e.lv.getD (j - 1) noA
def Lx.stp (e : Lx) (i j : Nat) : Stp := ⟨(i : Int), (j : Int), (e.x j).back, (e.x j).neg, (e.x j).ts⟩
/-- All steps. -/
noncomputable def Lx.stps (e : Lx) (i : Nat) : List Stp := (e.row i).map (e.stp i)
noncomputable def Lx.stepsTo (e : Lx) (i : Nat) : List Stp := (List.range i).flatMap e.stps
noncomputable def Lx.steps (e : Lx) : List Stp := e.stepsTo (e.n + 1)
theorem Lx.stepsTo_succ (e : Lx) (i : Nat) : e.stepsTo (i + 1) = e.stepsTo i ++ e.stps i := by
  unfold Lx.stepsTo
  rw [List.range_succ, List.flatMap_append, List.flatMap_singleton]
theorem Lx.steps_len (e : Lx) (i : Nat) : (e.stepsTo i).length ≤ i * (e.n + 1) := by
  induction i with
  | zero => simp [Lx.stepsTo]
  | succ i ih =>
    rw [Lx.stepsTo_succ, List.length_append, Nat.succ_mul]
    have := e.row_len i
    unfold Lx.stps
    rw [List.length_map]; omega
/-- The automaton of e at b. -/
def AutF (w : World) (b : Nat) (e : Lx) : Prop := ∃ (A : Option Addr) (cA : Nat) (bB cB : Nat) (F : Option Addr) (cF : Nat) (L : Option Addr) (cL : Nat),
  w.heap[b]? = some (.cells #[.slice A e.n cA, .slice (some ⟨bB, 0, none⟩) (e.n + 1) cB, .slice F (e.fi 0).length cF, .slice L (e.la 0).length cL, .bool e.nl] 100 (0, 0)) ∧
  RowAt w A 3 e.lv (AlR w anyB) ∧
  (∀ (i : Nat), i ≤ e.n → ∃ (R : Option Addr) (cR : Nat), w.cell? ⟨bB, i, none⟩ = some (.slice R (e.row i).length cR) ∧ IntsAt w anyB R (e.row i)) ∧
  IntsAt w anyB L (e.la 0)
theorem AutF.below {w w1 : World} {b : Nat} {e : Lx} (h : AutF w b e) (hb : Below w.heap.size w w1) : AutF w1 b e := by
  obtain ⟨A, cA, bB, cB, F, cF, L, cL, h1, h2, h3, h4⟩ := h
  exact ⟨A, cA, bB, cB, F, cF, L, cL, blk_below h1 hb, h2.below hb (fun a cs h => h.move (fun k _ hl => ⟨hb.block k hl, trivial⟩)),
    fun i hi => by
      obtain ⟨R, cR, k1, k3⟩ := h3 i hi
      exact ⟨R, cR, pw_cell_below hb k1, k3.below hb⟩, h4.below hb⟩
/-- What New answers: the path may not be here (1), has too many steps (3), or is an automaton. -/
def NewR (w : World) (p : Pth) (v : Value) (er : Int) : Prop :=
  (isP p = false ∧ v = .pointer none ∧ er = 1) ∨
  ∃ r : Rx, r.p = p ∧ r.fine ∧ r.dp ≤ 5 ∧ r.sz ≤ 30 ∧
    ((200 < (r.lay false).steps.length ∧ v = .pointer none ∧ er = 3) ∨ ((r.lay false).steps.length ≤ 200 ∧ er = 0 ∧ ∃ b, v = .pointer (some ⟨b, 0, none⟩) ∧ AutF w b (r.lay false)))
theorem NewR.below {w w1 : World} {p : Pth} {v : Value} {er : Int} (h : NewR w p v er) (hb : Below w.heap.size w w1) : NewR w1 p v er := by
  rcases h with h | ⟨r, h1, h2, h3, h4, h5⟩
  · exact Or.inl h
  · refine Or.inr ⟨r, h1, h2, h3, h4, h5.imp_right ?_⟩
    rintro ⟨h6, h7, b, h8, h9⟩
    exact ⟨h6, h7, b, h8, h9.below hb⟩
end Go.Proofs.YtbaegfjoionojaaDoor.Qa
