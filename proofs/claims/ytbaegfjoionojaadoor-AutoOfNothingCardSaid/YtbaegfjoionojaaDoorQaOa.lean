/- What the walks of two share: two rows in one, bounds, the contract of build, a path of two kids. -/
import Derived.Test.YtbaegfjoionojaaDoorQaN
set_option linter.unusedSimpArgs false
set_option linter.unusedVariables false
namespace Go.Proofs.YtbaegfjoionojaaDoor.Qa
open Go Go.RowKit Go.Proofs.YtbaegfjoionojaaDoor.Qy Go.Proofs.YtbaegfjoionojaaDoor.Tm Go.Proofs.YtbaegfjoionojaaDoorW.PrintWords

/-- Two rows of places, one behind the other. -/
theorem concat2 {W : World} {gv : Nat} {A B : Option Addr} {x y : List Nat} {c d : Nat} {ok ok' : Nat → Prop} (hg : W.heap[gv]? = some (.cells #[.slice A x.length c, .slice B y.length d] 71 (0, 0))) (hx : IntsAt W ok A x) (hy : IntsAt W ok' B y) (hx0 : 0 < x.length) (hy0 : 0 < y.length) (hx1 : x.length ≤ 1000) (hy1 : y.length ≤ 1000) :
    Calls Tryd.prog 119 #[.slice (some ⟨gv, 0, none⟩) 2 2] W fun e w' => ∃ (C : Option Addr) (q : Nat), e = .returned (.slice C (x ++ y).length q) ∧ IntsAt w' (fun g => W.heap.size ≤ g) C (x ++ y) ∧ Below W.heap.size W w' := by
  have e : cat [x, y] [x, y].length = x ++ y := by simp [cat]
  have hc := concat_any W gv [x, y] (fun k z hk => by
    match k, hk with
    | 0, hk => simp at hk; subst hk; exact ⟨A, c, (blk_cell hg 0).trans rfl, hx.mono (fun _ _ _ => trivial)⟩
    | 1, hk => simp at hk; subst hk; exact ⟨B, d, (blk_cell hg 1).trans rfl, hy.mono (fun _ _ _ => trivial)⟩
    | k + 2, hk => simp at hk) (fun z hz => by
      simp only [List.mem_cons, List.not_mem_nil, or_false] at hz
      rcases hz with rfl | rfl <;> assumption) (fun z hz => by
      simp only [List.mem_cons, List.not_mem_nil, or_false] at hz
      rcases hz with rfl | rfl <;> assumption) (by simp) (by simp) 2 rfl
  rw [e] at hc
  refine hc.mono ?_
  rintro e w' ⟨v, rfl, hv, hb⟩
  obtain ⟨C, q, rfl, hq, hi⟩ := hv.reads
  exact ⟨C, q, rfl, hi.mono (fun k hk _ => own_base hv k hk), hb⟩
/-- Bounds that hold throughout. -/
def Bd (r : Rx) (al : List Alng) (bh : List (List Nat)) : Prop := r.sz ≤ 30 ∧ al.length + r.sz ≤ 100 ∧ bh.length = al.length + 1 ∧ ∀ i, (bh.getD i []).length + 900 * r.sz ≤ 50000
theorem Bd.two {q r s : Rx} {al : List Alng} {bh : List (List Nat)} (h : Bd q al bh) (hq : r.sz + s.sz + 1 ≤ q.sz) (back : Bool) : Bd r al bh ∧ Bd s (al ++ (r.lay back).lv) ((r.lay back).bf al.length bh) := by
  obtain ⟨h1, h2, h3, h4⟩ := h
  have e := (r.lay back).n_sz
  have e2 := r.lay_sz back
  have e3 : (r.lay back).lv.length = (r.lay back).n := rfl
  refine ⟨⟨by omega, by omega, h3, fun i => by have := h4 i; omega⟩, by omega, by rw [List.length_append]; omega, by rw [Lx.bf_length, List.length_append]; omega, fun i => ?_⟩
  have h5 := (r.lay back).bf_len i al.length bh (by omega)
  have := h4 i
  omega
theorem Bd.one {q r : Rx} {al : List Alng} {bh : List (List Nat)} (h : Bd q al bh) (hq : r.sz + 1 ≤ q.sz) : Bd r al bh := by
  obtain ⟨h1, h2, h3, h4⟩ := h
  exact ⟨by omega, by omega, h3, fun i => by have := h4 i; omega⟩
/-- What build does at a path. -/
def BuildC (r : Rx) : Prop := ∀ (back : Bool) (w : World) (N b : Nat) (al : List Alng) (bh : List (List Nat)) (S : Nat → Prop), Aut w N b al bh S → N ≤ w.heap.size → ∀ (k : Int) (t : ByteArray) (A : Option Addr) (n c : Nat) (B : Option Addr) (m d : Nat),
  PathAt w (fun g => ¬ S g) r.p [.int .i64 k, .string t, .slice A n c, .slice B m d] → Bd r al bh →
  Calls Tryd.prog 66 #[.pointer (some ⟨b, 0, none⟩), .agg #[.int .i64 k, .string t, .slice A n c, .slice B m d], .bool back] w (PartP N b (al ++ (r.lay back).lv) ((r.lay back).bf al.length bh) ((r.lay back).fi al.length) ((r.lay back).la al.length) (r.lay back).nl S w)
theorem join12 {A1 A2 A3 A4 A5 A6 A7 A8 A9 A10 A11 A12 : Type} {G ST : A1 → A2 → A3 → A4 → A5 → A6 → A7 → A8 → A9 → A10 → A11 → A12 → Prop} {goal : Prop}
    (h : (∀ a1 a2 a3 a4 a5 a6 a7 a8 a9 a10 a11 a12, ST a1 a2 a3 a4 a5 a6 a7 a8 a9 a10 a11 a12 → G a1 a2 a3 a4 a5 a6 a7 a8 a9 a10 a11 a12) → goal) (key : ∀ a1 a2 a3 a4 a5 a6 a7 a8 a9 a10 a11 a12, ST a1 a2 a3 a4 a5 a6 a7 a8 a9 a10 a11 a12 → G a1 a2 a3 a4 a5 a6 a7 a8 a9 a10 a11 a12) : goal := h key
theorem join7 {A1 A2 A3 A4 A5 A6 A7 : Type} {G ST : A1 → A2 → A3 → A4 → A5 → A6 → A7 → Prop} {goal : Prop} (h : (∀ a1 a2 a3 a4 a5 a6 a7, ST a1 a2 a3 a4 a5 a6 a7 → G a1 a2 a3 a4 a5 a6 a7) → goal) (key : ∀ a1 a2 a3 a4 a5 a6 a7, ST a1 a2 a3 a4 a5 a6 a7 → G a1 a2 a3 a4 a5 a6 a7) : goal := h key
/-- The cells of a path of two kids. -/
theorem two_cells {w : World} {ok : Nat → Prop} {q q2 : Pth} {B : Option Addr} (h : KidsAt w ok B 0 [q, q2]) : ∃ (kb ko : Nat) (k0 : Int) (t0 : ByteArray) (A0 : Option Addr) (n0 c0 : Nat) (B0 : Option Addr) (m0 d0 : Nat) (k1 : Int) (t1 : ByteArray) (A1 : Option Addr) (n1 c1 : Nat) (B1 : Option Addr) (m1 d1 : Nat),
    B = some ⟨kb, ko, none⟩ ∧ ok kb ∧ PathAt w ok q [.int .i64 k0, .string t0, .slice A0 n0 c0, .slice B0 m0 d0] ∧ PathAt w ok q2 [.int .i64 k1, .string t1, .slice A1 n1 c1, .slice B1 m1 d1] ∧
    (w.cell? ⟨kb, ko, none⟩ = some (.int .i64 k0) ∧ w.cell? ⟨kb, ko + 1, none⟩ = some (.string t0) ∧ w.cell? ⟨kb, ko + 2, none⟩ = some (.slice A0 n0 c0) ∧ w.cell? ⟨kb, ko + 3, none⟩ = some (.slice B0 m0 d0)) ∧ (w.cell? ⟨kb, ko + 4, none⟩ = some (.int .i64 k1) ∧ w.cell? ⟨kb, ko + 5, none⟩ = some (.string t1) ∧ w.cell? ⟨kb, ko + 6, none⟩ = some (.slice A1 n1 c1) ∧ w.cell? ⟨kb, ko + 7, none⟩ = some (.slice B1 m1 d1)) := by
  obtain ⟨kb0, ko0, cs0, hB0, hok, hc0, hq0⟩ := KidsAt.get _ h 0 q rfl
  obtain ⟨k0', t0', ts0', ks0'⟩ := q
  obtain ⟨A0', cc0', B0', d0', rfl, -⟩ := p_cells hq0
  obtain ⟨kb1, ko1, cs1, hB1, -, hc1, hq1⟩ := KidsAt.get _ h 1 q2 rfl
  obtain ⟨k1', t1', ts1', ks1'⟩ := q2
  obtain ⟨A1', cc1', B1', d1', rfl, -⟩ := p_cells hq1
  have hBe : (⟨kb1, ko1, none⟩ : Addr) = ⟨kb0, ko0, none⟩ := Option.some.inj (hB1.symm.trans hB0)
  injection hBe with hb1 ho1
  subst hb1 ho1
  have a00 := hc0 0 _ rfl
  have a01 := hc0 1 _ rfl
  have a02 := hc0 2 _ rfl
  have a03 := hc0 3 _ rfl
  simp at a00 a01 a02 a03
  have a10 := hc1 0 _ rfl
  have a11 := hc1 1 _ rfl
  have a12 := hc1 2 _ rfl
  have a13 := hc1 3 _ rfl
  simp [Nat.add_assoc] at a10 a11 a12 a13
  exact ⟨_, _, _, _, _, _, _, _, _, _, _, _, _, _, _, _, _, _, hB0, hok, hq0, hq1, ⟨a00, a01, a02, a03⟩, a10, a11, a12, a13⟩
end Go.Proofs.YtbaegfjoionojaaDoor.Qa
