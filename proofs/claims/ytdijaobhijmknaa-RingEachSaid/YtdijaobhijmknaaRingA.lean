/- The walks of matches, of both makes. -/
import Derived.Test.YtdijaobhijmknaaRingM
set_option linter.unusedSimpArgs false
set_option linter.unusedVariables false
namespace Go.Proofs.Ytdijaobhijmknaa.Rg
open Go Go.RowKit Go.Proofs.YtdijaobhijmknaaW.PrintWords Go.Proofs.YtdijaobhijmknaaW.PrintLast Go.Proofs.YtdijaobhijmknaaW.PrintMore
attribute [local go_sem] max2_int min2_int max_two min_two

def partB (p t : Tri) (k : Nat) : Bool := p.at k == 0 || p.at k == t.at k
/-- The first i of its parts match. -/
def preB (p t : Tri) (i : Nat) : Bool := if i = 0 then true else if i = 1 then partB p t 0 else if i = 2 then partB p t 0 && partB p t 1 else matchB p t
theorem preB_step (p t : Tri) (i : Nat) (hi : i < 3) : preB p t (i + 1) = (preB p t i && partB p t i) := by
  have : i = 0 ∨ i = 1 ∨ i = 2 := by omega
  rcases this with rfl | rfl | rfl <;> simp [preB, partB, matchB, Tri.at]
theorem preB_no {p t : Tri} {i : Nat} (hi : i < 3) (h : partB p t i = false) : matchB p t = false := by
  have : i = 0 ∨ i = 1 ∨ i = 2 := by omega
  rcases this with rfl | rfl | rfl <;> simp [partB, matchB, Tri.at] at h ⊢ <;> intros <;> simp_all
theorem part_case (p t : Tri) (i : Nat) : ((p.at i != 0) = false ∧ partB p t i = true) ∨ ((p.at i != 0) = true ∧ (p.at i != t.at i) = false ∧ partB p t i = true) ∨ ((p.at i != 0) = true ∧ (p.at i != t.at i) = true ∧ partB p t i = false) := by
  unfold partB
  by_cases c1 : p.at i = 0
  · exact .inl ⟨by simp [c1], by simp [c1]⟩
  · by_cases c2 : p.at i = t.at i
    · exact .inr (.inl ⟨by simp [c1], by simp [c2], by simp [c2]⟩)
    · exact .inr (.inr ⟨by simp [c1], by simp [c2], by simp [c1, c2]⟩)
theorem ret_bool {a b : Bool} (h : a = b) : Ending.returned (.bool a) = .returned (.bool b) := by rw [h]
set_option maxRecDepth 100000 in
set_option maxHeartbeats 1000000 in
theorem matches_any (p t : Tri) (w : World) :
    Calls Try.prog 73 #[p.val, t.val] w fun e w' => e = .returned (.bool (matchB p t)) ∧ Below w.heap.size w w' := by
  have i0 : ∀ (x0 x1 x2 : Value) W, (Instr.index 54 (.agg #[x0, x1, x2]) (.int .i64 0)).run Try.prog W = .ok x0 W := fun _ _ _ _ => by kernel_rfl
  have i1 : ∀ (x0 x1 x2 : Value) W, (Instr.index 54 (.agg #[x0, x1, x2]) (.int .i64 1)).run Try.prog W = .ok x1 W := fun _ _ _ _ => by kernel_rfl
  have i2 : ∀ (x0 x1 x2 : Value) W, (Instr.index 54 (.agg #[x0, x1, x2]) (.int .i64 2)).run Try.prog W = .ok x2 W := fun _ _ _ _ => by kernel_rfl
  unfold Tri.val
  go_enter Try.func73, Try.ntmps73
  go_wp2_with fail
  go_loop [8] (fun x => ∃ i : Nat, i ≤ 3 ∧ x = .int .i64 i ∧ Aside0 (preB p t i = true)) (fun x => 3 - (intOf x).toNat)
  case atStart => exact ⟨0, by omega, rfl, ⟨rfl⟩⟩
  case round =>
    obtain ⟨i, hi, rfl, HE⟩ := hrel
    by_cases hlt : i < 3
    · have HS := Aside0.mk (preB_step p t i hlt)
      have HN := Aside0.mk (fun h => preB_no (p := p) (t := t) hlt h)
      have h3 : i = 0 ∨ i = 1 ∨ i = 2 := by omega
      rcases h3 with rfl | rfl | rfl
      · have hc : ((p.s != 0) = false ∧ partB p t 0 = true) ∨ ((p.s != 0) = true ∧ (p.s != t.s) = false ∧ partB p t 0 = true) ∨ ((p.s != 0) = true ∧ (p.s != t.s) = true ∧ partB p t 0 = false) := part_case p t 0
        rcases hc with ⟨c1, c2⟩ | ⟨c1, c2, c3⟩ | ⟨c1, c2, c3⟩
        · have HC := Aside0.mk c2
          clear c2
          go_wp2_with fail
          go_round
          case rel => exact ⟨1, by omega, rfl, ⟨by rw [HS.out, HE.out, HC.out]; rfl⟩⟩
          case measure => simp [intOf]
        · have HC := Aside0.mk c3
          clear c3
          go_wp2_with fail
          go_round
          case rel => exact ⟨1, by omega, rfl, ⟨by rw [HS.out, HE.out, HC.out]; rfl⟩⟩
          case measure => simp [intOf]
        · have HC := Aside0.mk c3
          clear c3
          go_wp2_with fail
          go_ret
          exact ⟨ret_bool (HN.out HC.out).symm, ((Below.refl _ _).alloc (Nat.le_refl _) _).alloc (by simp) _⟩
      · have hc : ((p.p != 0) = false ∧ partB p t 1 = true) ∨ ((p.p != 0) = true ∧ (p.p != t.p) = false ∧ partB p t 1 = true) ∨ ((p.p != 0) = true ∧ (p.p != t.p) = true ∧ partB p t 1 = false) := part_case p t 1
        rcases hc with ⟨c1, c2⟩ | ⟨c1, c2, c3⟩ | ⟨c1, c2, c3⟩
        · have HC := Aside0.mk c2
          clear c2
          go_wp2_with fail
          go_round
          case rel => exact ⟨2, by omega, rfl, ⟨by rw [HS.out, HE.out, HC.out]; rfl⟩⟩
          case measure => simp [intOf]
        · have HC := Aside0.mk c3
          clear c3
          go_wp2_with fail
          go_round
          case rel => exact ⟨2, by omega, rfl, ⟨by rw [HS.out, HE.out, HC.out]; rfl⟩⟩
          case measure => simp [intOf]
        · have HC := Aside0.mk c3
          clear c3
          go_wp2_with fail
          go_ret
          exact ⟨ret_bool (HN.out HC.out).symm, ((Below.refl _ _).alloc (Nat.le_refl _) _).alloc (by simp) _⟩
      · have hc : ((p.o != 0) = false ∧ partB p t 2 = true) ∨ ((p.o != 0) = true ∧ (p.o != t.o) = false ∧ partB p t 2 = true) ∨ ((p.o != 0) = true ∧ (p.o != t.o) = true ∧ partB p t 2 = false) := part_case p t 2
        rcases hc with ⟨c1, c2⟩ | ⟨c1, c2, c3⟩ | ⟨c1, c2, c3⟩
        · have HC := Aside0.mk c2
          clear c2
          go_wp2_with fail
          go_round
          case rel => exact ⟨3, by omega, rfl, ⟨by rw [HS.out, HE.out, HC.out]; rfl⟩⟩
          case measure => simp [intOf]
        · have HC := Aside0.mk c3
          clear c3
          go_wp2_with fail
          go_round
          case rel => exact ⟨3, by omega, rfl, ⟨by rw [HS.out, HE.out, HC.out]; rfl⟩⟩
          case measure => simp [intOf]
        · have HC := Aside0.mk c3
          clear c3
          go_wp2_with fail
          go_ret
          exact ⟨ret_bool (HN.out HC.out).symm, ((Below.refl _ _).alloc (Nat.le_refl _) _).alloc (by simp) _⟩
    · have h3 : i = 3 := by omega
      subst h3
      go_wp2_with fail
      go_ret
      exact ⟨ret_bool HE.out.symm, ((Below.refl _ _).alloc (Nat.le_refl _) _).alloc (by simp) _⟩
/-- A triple that lies in a block of its own. -/
def Boxed (w : World) (b : Nat) (t : Tri) : Prop := w.cell? ⟨b, 0, none⟩ = some (.int .i64 t.s) ∧ w.cell? ⟨b, 1, none⟩ = some (.int .i64 t.p) ∧ w.cell? ⟨b, 2, none⟩ = some (.int .i64 t.o)
theorem Boxed.drewN {w : World} {b : Nat} {t : Tri} (h : Boxed w b t) (n : Nat) : Boxed (w.drewN n) b t := h
theorem Boxed.below {w w1 : World} {b : Nat} {t : Tri} (h : Boxed w b t) (hb : Below w.heap.size w w1) : Boxed w1 b t := by
  have hl := World.block_lt_of_cell? w _ h.1
  exact ⟨(hb.cell (p := ⟨b, 0, none⟩) hl).trans h.1, (hb.cell (p := ⟨b, 1, none⟩) hl).trans h.2.1, (hb.cell (p := ⟨b, 2, none⟩) hl).trans h.2.2⟩
theorem Boxed.new (w : World) (t : Tri) (ty : TypeId) : Boxed (w.alloc (.cells #[.int .i64 t.s, .int .i64 t.p, .int .i64 t.o] ty)) w.heap.size t := ⟨by simp, by simp, by simp⟩
theorem boxes (w : World) (p t : Tri) (ty : TypeId) : Boxed ((w.alloc (.cells #[.int .i64 p.s, .int .i64 p.p, .int .i64 p.o] ty)).alloc (.cells #[.int .i64 t.s, .int .i64 t.p, .int .i64 t.o] ty)) w.heap.size p ∧
    Boxed ((w.alloc (.cells #[.int .i64 p.s, .int .i64 p.p, .int .i64 p.o] ty)).alloc (.cells #[.int .i64 t.s, .int .i64 t.p, .int .i64 t.o] ty)) (w.heap.size + 1) t ∧
    Below w.heap.size w ((w.alloc (.cells #[.int .i64 p.s, .int .i64 p.p, .int .i64 p.o] ty)).alloc (.cells #[.int .i64 t.s, .int .i64 t.p, .int .i64 t.o] ty)) := by
  have h1 := Boxed.new w p ty
  have h2 := Boxed.new (w.alloc (.cells #[.int .i64 p.s, .int .i64 p.p, .int .i64 p.o] ty)) t ty
  refine ⟨h1.below ((Below.refl _ _).alloc (Nat.le_refl _) _), ?_, ((Below.refl _ _).alloc (Nat.le_refl _) _).alloc (by simp) _⟩
  simpa using h2
set_option maxRecDepth 100000 in
set_option maxHeartbeats 1000000 in
theorem refMatches_any (p t : Tri) (w : World) :
    Calls Try.prog 55 #[p.val, t.val] w fun e w' => e = .returned (.bool (matchB p t)) ∧ Below w.heap.size w w' := by
  obtain ⟨b1, b2, b3⟩ := boxes w p t 54
  have HB1 := Aside0.mk b1
  have HB2 := Aside0.mk b2
  have HB3 := Aside0.mk b3
  clear b1 b2 b3
  unfold Tri.val
  go_enter Try.func55, Try.ntmps55
  go_wp2_with fail
  go_loopw [5] (fun x wr => ∃ i : Nat, i ≤ 3 ∧ x = .int .i64 i ∧ Aside0 (preB p t i = true) ∧ Aside0 (Boxed wr w.heap.size p) ∧ Aside0 (Boxed wr (w.heap.size + 1) t) ∧ Aside0 (Below w.heap.size w wr)) (fun x _ => 3 - (intOf x).toNat)
  case atStart => exact ⟨0, by omega, rfl, ⟨rfl⟩, HB1, HB2, HB3⟩
  case round =>
    clear HB1 HB2 HB3
    obtain ⟨i, hi, rfl, HE, HP, HT, HB⟩ := hrel
    obtain ⟨p0, p1, p2⟩ := HP.out
    obtain ⟨t0, t1, t2⟩ := HT.out
    by_cases hlt : i < 3
    · have HS := Aside0.mk (preB_step p t i hlt)
      have HN := Aside0.mk (fun h => preB_no (p := p) (t := t) hlt h)
      have h3 : i = 0 ∨ i = 1 ∨ i = 2 := by omega
      rcases h3 with rfl | rfl | rfl
      · have hc : ((p.s != 0) = false ∧ partB p t 0 = true) ∨ ((p.s != 0) = true ∧ (p.s != t.s) = false ∧ partB p t 0 = true) ∨ ((p.s != 0) = true ∧ (p.s != t.s) = true ∧ partB p t 0 = false) := part_case p t 0
        rcases hc with ⟨c1, c2⟩ | ⟨c1, c2, c3⟩ | ⟨c1, c2, c3⟩
        · have HC := Aside0.mk c2
          clear c2
          go_wp2_with fail
          go_quiet (fail)
          go_wp2_with fail
          go_roundw
          case rel => exact ⟨1, by omega, rfl, ⟨by rw [HS.out, HE.out, HC.out]; rfl⟩, ⟨HP.out.drewN _⟩, ⟨HT.out.drewN _⟩, ⟨pw_below_drewN HB.out _⟩⟩
          case measure => simp [intOf]
        · have HC := Aside0.mk c3
          clear c3
          go_wp2_with fail
          go_quiet (fail)
          go_wp2_with fail
          go_roundw
          case rel => exact ⟨1, by omega, rfl, ⟨by rw [HS.out, HE.out, HC.out]; rfl⟩, ⟨HP.out.drewN _⟩, ⟨HT.out.drewN _⟩, ⟨pw_below_drewN HB.out _⟩⟩
          case measure => simp [intOf]
        · have HC := Aside0.mk c3
          clear c3
          go_wp2_with fail
          go_quiet (fail)
          go_wp2_with fail
          go_ret
          exact ⟨ret_bool (HN.out HC.out).symm, pw_below_drewN HB.out _⟩
      · have hc : ((p.p != 0) = false ∧ partB p t 1 = true) ∨ ((p.p != 0) = true ∧ (p.p != t.p) = false ∧ partB p t 1 = true) ∨ ((p.p != 0) = true ∧ (p.p != t.p) = true ∧ partB p t 1 = false) := part_case p t 1
        rcases hc with ⟨c1, c2⟩ | ⟨c1, c2, c3⟩ | ⟨c1, c2, c3⟩
        · have HC := Aside0.mk c2
          clear c2
          go_wp2_with fail
          go_quiet (fail)
          go_wp2_with fail
          go_roundw
          case rel => exact ⟨2, by omega, rfl, ⟨by rw [HS.out, HE.out, HC.out]; rfl⟩, ⟨HP.out.drewN _⟩, ⟨HT.out.drewN _⟩, ⟨pw_below_drewN HB.out _⟩⟩
          case measure => simp [intOf]
        · have HC := Aside0.mk c3
          clear c3
          go_wp2_with fail
          go_quiet (fail)
          go_wp2_with fail
          go_roundw
          case rel => exact ⟨2, by omega, rfl, ⟨by rw [HS.out, HE.out, HC.out]; rfl⟩, ⟨HP.out.drewN _⟩, ⟨HT.out.drewN _⟩, ⟨pw_below_drewN HB.out _⟩⟩
          case measure => simp [intOf]
        · have HC := Aside0.mk c3
          clear c3
          go_wp2_with fail
          go_quiet (fail)
          go_wp2_with fail
          go_ret
          exact ⟨ret_bool (HN.out HC.out).symm, pw_below_drewN HB.out _⟩
      · have hc : ((p.o != 0) = false ∧ partB p t 2 = true) ∨ ((p.o != 0) = true ∧ (p.o != t.o) = false ∧ partB p t 2 = true) ∨ ((p.o != 0) = true ∧ (p.o != t.o) = true ∧ partB p t 2 = false) := part_case p t 2
        rcases hc with ⟨c1, c2⟩ | ⟨c1, c2, c3⟩ | ⟨c1, c2, c3⟩
        · have HC := Aside0.mk c2
          clear c2
          go_wp2_with fail
          go_quiet (fail)
          go_wp2_with fail
          go_roundw
          case rel => exact ⟨3, by omega, rfl, ⟨by rw [HS.out, HE.out, HC.out]; rfl⟩, ⟨HP.out.drewN _⟩, ⟨HT.out.drewN _⟩, ⟨pw_below_drewN HB.out _⟩⟩
          case measure => simp [intOf]
        · have HC := Aside0.mk c3
          clear c3
          go_wp2_with fail
          go_quiet (fail)
          go_wp2_with fail
          go_roundw
          case rel => exact ⟨3, by omega, rfl, ⟨by rw [HS.out, HE.out, HC.out]; rfl⟩, ⟨HP.out.drewN _⟩, ⟨HT.out.drewN _⟩, ⟨pw_below_drewN HB.out _⟩⟩
          case measure => simp [intOf]
        · have HC := Aside0.mk c3
          clear c3
          go_wp2_with fail
          go_quiet (fail)
          go_wp2_with fail
          go_ret
          exact ⟨ret_bool (HN.out HC.out).symm, pw_below_drewN HB.out _⟩
    · have h3 : i = 3 := by omega
      subst h3
      go_wp2_with fail
      go_ret
      exact ⟨ret_bool HE.out.symm, HB.out⟩
end Go.Proofs.Ytdijaobhijmknaa.Rg
