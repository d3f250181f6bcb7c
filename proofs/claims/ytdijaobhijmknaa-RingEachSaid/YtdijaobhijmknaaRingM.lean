/- Plain facts on triples of numbers, and how they lie in memory. -/
import Derived.Test.YtdijaobhijmknaaLawWave
import Derived.Test.YtdijaobhijmknaaWArr
set_option linter.unusedSimpArgs false
set_option linter.unusedVariables false
namespace Go.Proofs.Ytdijaobhijmknaa.Rg
open Go Go.RowKit Go.Proofs.YtdijaobhijmknaaW.PrintWords

/-- A triple of numbers. -/
structure Tri where
  s : Int
  p : Int
  o : Int
deriving DecidableEq
def Tri.at (t : Tri) (k : Nat) : Int := if k = 0 then t.s else if k = 1 then t.p else t.o
def Tri.cells (t : Tri) : List Value := [.int .i64 t.s, .int .i64 t.p, .int .i64 t.o]
def Tri.val (t : Tri) : Value := .agg #[.int .i64 t.s, .int .i64 t.p, .int .i64 t.o]
def kT : Kd Tri where
  sz := 3
  E := []
  K := fun _ t cs => cs = t.cells
  M := fun _ _ _ t cs => cs = t.cells
  K_len := fun h => by rw [h]; rfl
  K_one := fun h u hu => by
    rw [h] at hu
    simp [Tri.cells] at hu
    rcases hu with rfl | rfl | rfl <;> rfl
  K_below := fun _ h => h
  K_of_M := fun h => h
  M_mono := fun _ h => h
  M_bound := fun h => h
  M_move := fun _ h => h
  M_lower := fun _ h => h
/-- Does a pattern match? -/
def matchB (p t : Tri) : Bool := (p.s == 0 || p.s == t.s) && (p.p == 0 || p.p == t.p) && (p.o == 0 || p.o == t.o)
/-- Does a triple stand ahead of another one? -/
def lessB (a b : Tri) : Bool := if a.s != b.s then decide (a.s < b.s) else if a.p != b.p then decide (a.p < b.p) else if a.o != b.o then decide (a.o < b.o) else false
/-- Is each number such that it may be? -/
def okT (t : Tri) : Bool := decide (1 ≤ t.s ∧ t.s ≤ 1000) && decide (1 ≤ t.p ∧ t.p ≤ 1000) && decide (1 ≤ t.o ∧ t.o ≤ 1000)
/-- May triples be a Ring's (but for how many)? -/
def mayL : List Tri → Bool
  | [] => true
  | [a] => okT a
  | a :: b :: l => okT a && lessB a b && mayL (b :: l)
end Go.Proofs.Ytdijaobhijmknaa.Rg
