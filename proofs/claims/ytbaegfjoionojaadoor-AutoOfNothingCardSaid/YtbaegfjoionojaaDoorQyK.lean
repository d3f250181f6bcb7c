/- A block that a call may write, and no other elder one; a reader in a block. -/
import Derived.Test.YtbaegfjoionojaaDoorQyP
import Derived.Deep.QuietTactic
import Derived.BigQuiet
import Derived.Handy
set_option linter.unusedSimpArgs false
set_option linter.unusedVariables false
namespace Go.Proofs.YtbaegfjoionojaaDoor.Qy
open Go Go.RowKit Go.Proofs.YtbaegfjoionojaaDoor.Tm Go.Proofs.YtbaegfjoionojaaDoorW.PrintWords

/-- But for block b, all that was there is as it was. -/
def Kb (b : Nat) (w w' : World) : Prop := Below b w w' ∧ ∀ i, i < w.heap.size → i ≠ b → w'.heap[i]? = w.heap[i]?
theorem Kb.refl (b : Nat) (w : World) : Kb b w w := ⟨Below.refl _ _, fun _ _ _ => rfl⟩
theorem Kb.trans {b : Nat} {w w1 w2 : World} (h : Kb b w w1) (k : Kb b w1 w2) : Kb b w w2 :=
  ⟨h.1.trans k.1, fun i hi hn => (k.2 i (by have := h.1.size; omega) hn).trans (h.2 i hi hn)⟩
theorem Kb.size {b : Nat} {w w1 : World} (h : Kb b w w1) : w.heap.size ≤ w1.heap.size := h.1.size
theorem Kb.of {b : Nat} {w w1 : World} (h : Below w.heap.size w w1) (hb : b < w.heap.size) : Kb b w w1 := ⟨h.mono (by omega), fun i hi _ => h.block i hi⟩
theorem Kb.set {b : Nat} (w : World) (j : Nat) (v : Value) : Kb b w (w.setCell ⟨b, j, none⟩ v) :=
  ⟨(Below.refl b w).setCell (p := ⟨b, j, none⟩) (Nat.le_refl b) v, fun i hi hn => Below.heap_setCell w ⟨b, j, none⟩ _ i hn⟩
theorem Kb.far {b : Nat} {w w1 : World} (h : Kb b w w1) (hb : b < w.heap.size) {p : Addr} (hp : w.heap.size ≤ p.block) (v : Value) : Kb b w (w1.setCell p v) :=
  ⟨h.1.setCell (by omega) _, fun i hi hn => (Below.heap_setCell w1 p _ i (by omega)).trans (h.2 i hi hn)⟩
theorem Kb.drewN {b : Nat} (w : World) (n : Nat) : Kb b w (w.drewN n) := ⟨pw_below_drewN (Below.refl _ _) n, fun _ _ _ => rfl⟩
theorem Kb.blk {b : Nat} {w w1 : World} (h : Kb b w w1) {g : Nat} {o : Obj} (hg : w.heap[g]? = some o) (hn : g ≠ b) : w1.heap[g]? = some o := (h.2 g (blk_lt hg) hn).trans hg
theorem Kb.path {b : Nat} {w w1 : World} (h : Kb b w w1) {ok : Nat → Prop} (hb : ∀ k, ok k → k ≠ b) {p : Pth} {cs : List Value} (hp : PathAt w ok p cs) : PathAt w1 ok p cs :=
  PathAt.move (fun k ho hk => h.2 k hk (hb k ho)) p hp
/-- The program's reader: its text, its place, its error, where. -/
def Rq (w : World) (b : Nat) (s : ByteArray) (i : Nat) (e : Int) (o : Nat) : Prop := w.heap[b]? = some (.cells #[.string s, .int .i64 (i : Int), .int .i64 e, .int .i64 (o : Int)] 84 (0, 0))
theorem Rq.below {w w1 : World} {b : Nat} {s : ByteArray} {i : Nat} {e : Int} {o : Nat} (h : Rq w b s i e o) (hb : Below w.heap.size w w1) : Rq w1 b s i e o := blk_below h hb
theorem Rq.cells {w : World} {b : Nat} {s : ByteArray} {i : Nat} {e : Int} {o : Nat} (h : Rq w b s i e o) : w.cell? ⟨b, 0, none⟩ = some (.string s) ∧ w.cell? ⟨b, 1, none⟩ = some (.int .i64 (i : Int)) ∧ w.cell? ⟨b, 2, none⟩ = some (.int .i64 e) ∧ w.cell? ⟨b, 3, none⟩ = some (.int .i64 (o : Int)) ∧ w.frozen? ⟨b, 1, none⟩ = false ∧ w.frozen? ⟨b, 2, none⟩ = false ∧ w.frozen? ⟨b, 3, none⟩ = false :=
  ⟨blk_cell h 0, blk_cell h 1, blk_cell h 2, blk_cell h 3, blk_frozen h 1, blk_frozen h 2, blk_frozen h 3⟩
theorem Rq.at {w : World} {b : Nat} {s : ByteArray} {i : Nat} {e : Int} {o : Nat} (h : Rq w b s i e o) (j : Nat) : Rq (w.setCell ⟨b, 1, none⟩ (.int .i64 (j : Int))) b s j e o := (blk_set h 1 _).trans rfl
theorem Rq.to {w : World} {b : Nat} {s : ByteArray} {i : Nat} {e : Int} {o : Nat} (h : Rq w b s i e o) (j : Nat) (n : Int) (hn : n = (j : Int)) : Rq (w.setCell ⟨b, 1, none⟩ (.int .i64 n)) b s j e o := by subst hn; exact h.at j
theorem Rq.drewN {w : World} {b : Nat} {s : ByteArray} {i : Nat} {e : Int} {o : Nat} (h : Rq w b s i e o) (n : Nat) : Rq (w.drewN n) b s i e o := h
theorem Rq.err {w : World} {b : Nat} {s : ByteArray} {i : Nat} {e : Int} {o : Nat} (h : Rq w b s i e o) (e2 : Int) (o2 : Nat) : Rq ((w.setCell ⟨b, 2, none⟩ (.int .i64 e2)).setCell ⟨b, 3, none⟩ (.int .i64 (o2 : Int))) b s i e2 o2 := (blk_set (blk_set h 2 _) 3 _).trans rfl
theorem Rq.far {w : World} {b : Nat} {s : ByteArray} {i : Nat} {e : Int} {o : Nat} (h : Rq w b s i e o) {p : Addr} (hp : b ≠ p.block) (v : Value) : Rq (w.setCell p v) b s i e o := blk_far h hp v
theorem four_set {w : World} {A : Nat} {t : TypeId} {u0 u1 u2 u3 : Value} (h : w.heap[A]? = some (.cells #[u0, u1, u2, u3] t (0, 0))) (v0 v1 v2 v3 : Value) :
    ((((w.setCell ⟨A, 0, none⟩ v0).setCell ⟨A, 1, none⟩ v1).setCell ⟨A, 2, none⟩ v2).setCell ⟨A, 3, none⟩ v3).heap[A]? = some (.cells #[v0, v1, v2, v3] t (0, 0)) :=
  blk_set (blk_set (blk_set (blk_set h 0 v0) 1 v1) 2 v2) 3 v3
/-- Where a reader is. -/
def atOf (w : World) (b : Nat) : Nat := match w.cell? ⟨b, 1, none⟩ with
  | some (.int _ n) => n.toNat
  | _ => 0
theorem Rq.atOf {w : World} {b : Nat} {s : ByteArray} {i : Nat} {e : Int} {o : Nat} (h : Rq w b s i e o) : atOf w b = i := by
  unfold Qy.atOf
  rw [h.cells.2.1]
  simp
theorem get_byte (s : ByteArray) (i : Nat) (h : i < s.size) : s[i].toNat = byteAt s i := by
  unfold byteAt
  rw [show s.get! i = s.data[i]! from rfl, getElem!_pos s.data i h]
  rfl
theorem nx_lt (s : ByteArray) (i : Nat) : nx s i < 256 := by
  unfold nx byteAt
  split
  · exact UInt8.toNat_lt _
  · omega
end Go.Proofs.YtbaegfjoionojaaDoor.Qy
