/- The imports of the walks, and small words that they share. -/
import Derived.Test.YtdijaobhijmknaaProg
import Derived.Test.YtdijaobhijmknaaWMore
import Derived.Test.YtdijaobhijmknaaWNEv
import Derived.Test.YtdijaobhijmknaaWTab
import Derived.Below
import Derived.Deep.Draws
import Derived.OwnWalk
import Derived.Tactics
import Derived.WalkKit
import Derived.KernelRfl
import Derived.RowKit3
import Derived.Deep.LoopGhost
import Derived.Deep.QuietTactic
import Derived.BigQuiet
import Derived.WideLaws
import Derived.Deep.DeepCutAuto
import Derived.Deep.CutBlock
import Derived.Deep.RegionHeld3
import Derived.Laws.Rows
import Derived.RegionTactic
import Derived.BigRegion
import Derived.ChangeAlike
import Derived.Outline
import Derived.RowKit
import Derived.Lib.Hide
import Derived.Deep.Light
import Derived.IntWalk
set_option linter.unusedSimpArgs false
set_option linter.unusedVariables false
namespace Go.Proofs.Ytdijaobhijmknaa.Bs
open Go.RowKit Go.Proofs.YtdijaobhijmknaaW.PrintWords Go.Proofs.YtdijaobhijmknaaW.PrintLast Go.Proofs.YtdijaobhijmknaaW.PrintMore
theorem info_int : (Try.prog.info? 3).map (fun i => (i.zero, i.size, i.bytes)) = some (some (.int .i64 0), 1, 8) := by kernel_rfl
theorem info_byte : (Try.prog.info? 5).map (fun i => (i.zero, i.size, i.bytes)) = some (some (.int .u8 0), 1, 1) := by kernel_rfl
theorem info_int_at : ∃ i : TypeInfo, Try.prog.info? 3 = some i ∧ i.size = 1 := by
  obtain ⟨i, hi, hz⟩ := Option.map_eq_some_iff.1 info_int
  simp only [Prod.mk.injEq] at hz
  exact ⟨i, hi, hz.2.1⟩
/-- A cell of a row that came in, at a place. -/
theorem at_arg {k : IntKind} {w : World} {A : Option Addr} {n : Nat} {xs : List Int} (h : (Kd.int k).C w A n xs) (i : Nat) (hi : i < n) : ∃ ad, A = some ad ∧ w.cell? (ad.add i) = some (.int k (rd xs (i : Int))) := by
  obtain ⟨ad, e, hx⟩ := Kd.at_int h (i : Int) (by omega) (by omega)
  simp only [Int.toNat_natCast] at hx
  exact ⟨ad, e, hx⟩
/-- The same in a later world. -/
theorem at_later {k : IntKind} {w w1 : World} {A : Option Addr} {n : Nat} {xs : List Int} (h : (Kd.int k).C w A n xs) (hb : Below w.heap.size w w1) (i : Nat) (hi : i < n) : ∃ ad, A = some ad ∧ w1.cell? (ad.add i) = some (.int k (rd xs (i : Int))) := by
  obtain ⟨ad, e, hx⟩ := at_arg h i hi
  exact ⟨ad, e, (hb.cell (World.block_lt_of_cell? w _ hx)).trans hx⟩
/-- A cell of a row of the call's own, at a place. -/
theorem at_own {k : IntKind} {e g n cap base : Nat} {ok : Nat → Prop} {W : World} {xs : List Int} (h : (Kd.int k).R e W base ok (.slice (some ⟨g, 0, none⟩) n cap) xs) (i : Nat) (hi : i < n) : W.cell? ⟨g, i, none⟩ = some (.int k (rd xs (i : Int))) ∧ W.frozen? ⟨g, i, none⟩ = false := by
  have := Kd.R_celln 0 h (i : Int) (by omega) (by omega)
  simp only [Int.toNat_natCast] at this
  exact this
/-- A store into it. -/
theorem put_own {k : IntKind} {e g n cap base : Nat} {ok : Nat → Prop} {W : World} {xs : List Int} (h : (Kd.int k).R e W base ok (.slice (some ⟨g, 0, none⟩) n cap) xs) (i : Nat) (x : Int) : (Kd.int k).R e (W.setCell ⟨g, i, none⟩ (.int k x)) base ok (.slice (some ⟨g, 0, none⟩) n cap) (xs.set i x) := by
  have := Kd.R_putn h (i : Int) x
  simp only [Int.toNat_natCast] at this
  exact this
theorem below_put {w W : World} {g i : Nat} {v : Value} (h : Below w.heap.size w W) (hg : w.heap.size ≤ g) : Below w.heap.size w ((W.setCell ⟨g, i, none⟩ v).drew) := below_drew (h.setCell hg _)
theorem reads_n {α : Type} {d : Kd α} {e base n c : Nat} {ok : Nat → Prop} {W : World} {A : Option Addr} {xs : List α} (h : d.R e W base ok (.slice A n c) xs) : xs.length = n ∧ n ≤ c ∧ d.C W A n xs := by
  obtain ⟨h1, h2, h3⟩ := Kd.R_reads' h
  exact ⟨h1.symm, h2, h1 ▸ h3⟩
theorem mem_range {xs : List Int} {lo hi : Int} (h : ∀ x ∈ xs, lo ≤ x ∧ x ≤ hi) (hz : lo ≤ 0 ∧ 0 ≤ hi) (i : Nat) : lo ≤ rd xs (i : Int) ∧ rd xs (i : Int) ≤ hi := by
  unfold rd
  rw [List.getD_eq_getElem?_getD]
  rcases hx : xs[(i : Int).toNat]? with _ | x
  · simpa using hz
  · simpa using h x (List.mem_of_getElem? hx)
/-- A literal, just laid. -/
theorem lit_C (k : IntKind) (w : World) (e : TypeId) (xs : List Int) (hm : xs.length ≤ 9223372036854775807) : Kd.C (Kd.int k) (w.alloc (.cells (nums k xs).toArray e)) (some ⟨w.heap.size, 0, none⟩) xs.length xs :=
  Kd.C_of_reads (d := (0 : Int)) (h1 := fun _ => rfl) (own_reads' (own_lit w w.heap.size e k xs (Nat.le_refl _) hm))
theorem lit_R (k : IntKind) (w : World) (base : Nat) (e : TypeId) (xs : List Int) (hb : base ≤ w.heap.size) (hm : xs.length ≤ 9223372036854775807) : Kd.R (Kd.int k) e (w.alloc (.cells (nums k xs).toArray e)) base (fun _ => True) (.slice (some ⟨w.heap.size, 0, none⟩) xs.length xs.length) xs :=
  Kd.R_of_own (own_lit w base e k xs hb hm) (fun _ _ => trivial)
/-- The one cell of a block that was just laid. -/
theorem cell_new1 (w : World) (x : Value) (t : TypeId) : (w.alloc (.cells #[x] t)).cell? ⟨w.heap.size, 0, none⟩ = some x := by
  simp
def IsRow (k : IntKind) (w : World) (a : Option Addr) (len cap : Nat) (zs : List Int) : Prop :=
  (a = none ∧ len = 0 ∧ cap = 0 ∧ zs = []) ∨
  ∃ x, a = some x ∧ len ≤ cap ∧ cap ≤ maxLen ∧ zs.length = cap ∧ (∀ i, i < zs.length → w.cell? (x.add i) = some (.int k (zs.getD i 0))) ∧ ∀ n ∈ zs, (Lit.int k n).wf = true
theorem isRow_reads {k : IntKind} {w : World} {a : Option Addr} {len cap : Nat} {zs : List Int} (h : IsRow k w a len cap zs) : ∃ l : List Int, len = l.length ∧ Kd.C (Kd.int k) w a l.length l ∧ l.length ≤ cap ∧ l.length ≤ maxLen ∧ ∀ x ∈ l, (Lit.int k x).wf = true := by
  obtain ⟨l, e, hr, hm, hw, hc⟩ := ReadsInt.ofRowC h
  exact ⟨l, e, Kd.C_of_reads (d := (0 : Int)) (h1 := fun _ => rfl) hr, hc, hm, hw⟩
theorem wf_i64 {n : Int} (h : (Lit.int .i64 n).wf = true) : -9223372036854775808 ≤ n ∧ n ≤ 9223372036854775807 := by
  simpa [Lit.wf, IntKind.min, IntKind.max, IntKind.signed, IntKind.bits] using h
theorem wf_u8 {n : Int} (h : (Lit.int .u8 n).wf = true) : 0 ≤ n ∧ n ≤ 255 := by
  simpa [Lit.wf, IntKind.min, IntKind.max, IntKind.signed, IntKind.bits] using h
theorem wf_u64 {n : Int} (h : (Lit.int .u64 n).wf = true) : 0 ≤ n ∧ n ≤ 18446744073709551615 := by
  simpa [Lit.wf, IntKind.min, IntKind.max, IntKind.signed, IntKind.bits] using h
theorem wf_i32 {n : Int} (h : (Lit.int .i32 n).wf = true) : -2147483648 ≤ n ∧ n ≤ 2147483647 := by
  simpa [Lit.wf, IntKind.min, IntKind.max, IntKind.signed, IntKind.bits] using h
theorem rows_i64 {l : List Int} (h : ∀ x ∈ l, (Lit.int .i64 x).wf = true) : ∀ i : Nat, -9223372036854775808 ≤ rd l i ∧ rd l i ≤ 9223372036854775807 := fun i =>
  mem_range (fun x hx => wf_i64 (h x hx)) (by omega) i
end Go.Proofs.Ytdijaobhijmknaa.Bs
