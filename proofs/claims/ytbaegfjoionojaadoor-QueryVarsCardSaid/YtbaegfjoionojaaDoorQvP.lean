/- Helpers for QueryVars: a byte as a text, the last two bits, a row of patterns. -/
import Derived.Test.YtbaegfjoionojaaDoorQvN
import Derived.Test.YtbaegfjoionojaaDoorQyO
set_option linter.unusedSimpArgs false
set_option linter.unusedVariables false
namespace Go.Proofs.YtbaegfjoionojaaDoor.Qy
open Go Go.RowKit Go.Proofs.YtbaegfjoionojaaDoor.Tm Go.Proofs.YtbaegfjoionojaaDoorW.PrintWords

/-- What is held may be more from here on. -/
theorem held_more {P : Program} {md : Region.Mode} {ops : Array Oper} {Q : Exit → Act → World → Prop} {S S' : World → Prop} (hs : ∀ w, S' w → S w) : ∀ (fuel : Nat) (listed : Array Bool) (a : Act) (w : World), wpAnyH P md ops Q S' fuel listed a w → wpAnyH P md ops Q S fuel listed a w
  | 0, _, _, _, h => h
  | fuel + 1, _, _, _, h => ⟨h.1, fun i hi => wpOp_mono (fun a' w' h' => ⟨hs _ h'.1, held_more hs fuel _ a' w' h'.2⟩) (h.2 i hi)⟩
theorem mask3 (x : Int) : ∃ m : Nat, bits .and .i64 x 3 = (m : Int) ∧ m < 4 := by
  have h : (BitVec.ofInt 64 x &&& BitVec.ofInt 64 3).toNat ≤ 3 := by
    rw [BitVec.toNat_and]; exact Nat.le_trans Nat.and_le_right (by decide)
  have e : bits .and .i64 x 3 = ((BitVec.ofInt 64 x &&& BitVec.ofInt 64 3).toNat : Int) := by
    unfold bits
    show IntKind.i64.wrap ((BitVec.ofInt 64 x &&& BitVec.ofInt 64 3).toNat : Int) = _
    exact IntWalk.i64_in _ (by omega)
  exact ⟨_, e, by omega⟩
theorem conv_one {W : World} {B m : Nat} (hm : m < 4) (h : W.heap[B]? = some (.cells #[.int .u8 (97 + (m : Int))] 5 (0, 0))) :
    (convert 72 9 (.slice (some ⟨B, 0, none⟩) 1 1)).run Tryd.prog W = .ok (.string (nmB m)) W := by
  have := run_convert_bytes_back (P := Tryd.prog) W 72 9 5 ⟨B, 0, none⟩ 1 [UInt8.ofNat (97 + m)] Tryd.underlying72 Tryd.underlying5 Tryd.underlying9 (fun j hj => by
    obtain rfl : j = 0 := by simp at hj; omega
    show W.cell? ⟨B, 0, none⟩ = _
    rw [blk_cell h 0]
    show some (Value.int .u8 (97 + (m : Int))) = some (.int .u8 ((UInt8.ofNat (97 + m)).toNat : Int))
    have : (UInt8.ofNat (97 + m)).toNat = 97 + m := by
      rw [UInt8.toNat_ofNat']
      omega
    rw [this]; rfl)
  exact this
/-- Cells of a pattern of two names. -/
def cP (p : ByteArray × ByteArray) : List Value := [.string p.1, .int .i64 0, .string ⟨#[]⟩, .string ⟨#[]⟩, .int .i64 1, .string ⟨#[112]⟩, .slice none 0 0, .slice none 0 0, .string p.2, .int .i64 0, .string ⟨#[]⟩, .string ⟨#[]⟩]
def kPt : Kd (ByteArray × ByteArray) where
  sz := 12
  E := []
  K := fun _ t cs => cs = cP t
  M := fun _ _ _ t cs => cs = cP t
  K_len := fun h => by rw [h]; rfl
  K_one := fun h u hu => by
    rw [h] at hu
    simp [cP] at hu
    rcases hu with rfl | rfl | rfl | rfl | rfl | rfl | rfl | rfl | rfl | rfl | rfl | rfl <;> rfl
  K_below := fun _ h => h
  K_of_M := fun h => h
  M_mono := fun _ h => h
  M_bound := fun h => h
  M_move := fun _ h => h
  M_lower := fun _ h => h
theorem info_pat : (Tryd.prog.info? 78).map (fun i => (i.zero, i.size, i.bytes)) = some (some (.agg #[.string ⟨#[]⟩, .int .i64 0, .string ⟨#[]⟩, .string ⟨#[]⟩, .int .i64 0, .string ⟨#[]⟩, .slice none 0 0, .slice none 0 0, .string ⟨#[]⟩, .int .i64 0, .string ⟨#[]⟩, .string ⟨#[]⟩]), 12, 184) := by kernel_rfl
def patOf (p : ByteArray × ByteArray) : Pat := mkP p.1 p.2
end Go.Proofs.YtbaegfjoionojaaDoor.Qy
