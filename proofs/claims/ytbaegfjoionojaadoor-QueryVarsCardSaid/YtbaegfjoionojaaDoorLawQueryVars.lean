/- The law QueryVars: a query's variables, each once, in the order of their first places. -/
import Derived.Test.YtbaegfjoionojaaDoorQvP
import Derived.Test.YtbaegfjoionojaaDoorQvR
import Derived.Test.YtbaegfjoionojaaDoorQvG
import Derived.Test.YtbaegfjoionojaaDoorQyW
import Derived.Test.YtbaegfjoionojaaDoorQyN
set_option linter.unusedSimpArgs false
set_option linter.unusedVariables false
namespace Go.Proofs.YtbaegfjoionojaaDoor.Qy
open Go Go.RowKit Go.Proofs.YtbaegfjoionojaaDoor.Tm Go.Proofs.YtbaegfjoionojaaDoorW.PrintWords

theorem int_cells {w : World} {A : Option Addr} {l : List Int} (h : Kd.C (Kd.int .i64) w A l.length l) (h0 : 0 < l.length) : ∃ b o, A = some ⟨b, o, none⟩ ∧ ∀ (j : Nat) x, l[j]? = some x → w.cell? ⟨b, o + j, none⟩ = some (.int .i64 x) := by
  obtain ⟨ad, e1, hc⟩ := h.2.2 h0
  have cell : ∀ (j : Nat) x, l[j]? = some x → w.cell? (ad.add j) = some (.int .i64 x) := fun j x hx => by
    obtain ⟨cs, h1, h2, h3⟩ := hc j x hx
    have h2 : cs = [.int .i64 x] := h2
    have := h3 0 (.int .i64 x) (by rw [h2]; rfl)
    simpa [Kd.int, Kd.scalar] using this
  have hs : ad = ⟨ad.block, ad.off, none⟩ := spot_none (show w.cell? ad = some _ from cell 0 _ (List.getElem?_eq_getElem h0))
  refine ⟨ad.block, ad.off, by rw [e1]; exact congrArg some hs, fun j x hx => ?_⟩
  have := cell j x hx
  rw [hs, add_at] at this
  exact this
theorem is_c3 : IsC 32 := fun p W k t A n c B m e hb hp hT => is_path p hb W anyB k t A n c B m e hp hT
theorem rows_of {w : World} {e b : Nat} {ok : Nat → Prop} {V : Value} {ps : List (ByteArray × ByteArray)} (h : kPt.R e w b ok V ps) : ∃ B c, V = .slice B ps.length c ∧ RowAt w B 12 (ps.map patOf) (PatAt w) := by
  obtain ⟨A, c, he, hl, hr⟩ := Kd.R_reads h
  refine ⟨A, c, he, fun i a ha => ?_⟩
  rw [List.getElem?_map, Option.map_eq_some_iff] at ha
  obtain ⟨p, hp, rfl⟩ := ha
  have h0 : 0 < ps.length := by have := (List.getElem?_eq_some_iff.1 hp).1; omega
  obtain ⟨ad, e1, hc⟩ := hr.2.2 h0
  have cell : ∀ (j : Nat) q, ps[j]? = some q → ∀ (k : Nat) u, (cP q)[k]? = some u → w.cell? (ad.add (j * 12 + k)) = some u := fun j q hq k u hu => by
    obtain ⟨cs, h1, h2, h3⟩ := hc j q hq
    have h2 : cs = cP q := h2
    subst h2
    exact h3 k u hu
  have hs : ad = ⟨ad.block, ad.off, none⟩ := spot_none (show w.cell? ad = some _ from cell 0 _ (List.getElem?_eq_getElem h0) 0 _ rfl)
  refine ⟨ad.block, ad.off, cP p, by rw [e1]; exact congrArg some hs, fun j u hu => ?_, [.int .i64 1, .string ⟨#[112]⟩, .slice none 0 0, .slice none 0 0], rfl, ?_⟩
  · have := cell i p hp j u hu
    rw [hs, add_at] at this
    rw [Nat.add_assoc]
    exact this
  · unfold patOf mkP PathAt
    exact ⟨none, 0, none, 0, rfl, by simp, by simp, by simp, ⟨by simp, fun h => by simp at h⟩, by unfold KidsAt; trivial⟩
theorem six_set {w : World} {b : Nat} {u0 u1 u2 u3 u4 u5 : Value} {ty : TypeId} (h : w.heap[b]? = some (.cells #[u0, u1, u2, u3, u4, u5] ty (0, 0))) (v : Value) : (w.setCell ⟨b, 2, none⟩ v).heap[b]? = some (.cells #[u0, u1, v, u3, u4, u5] ty (0, 0)) := by
  exact blk_set h 2 v
theorem rows_apart {w : World} {b : Nat} {ok ok' : Nat → Prop} {x V : Value} {l : List ByteArray} {ps : List (ByteArray × ByteArray)} (h1 : Kd.string.R 9 w b ok x l) (h2 : kPt.R 78 w b ok' V ps) : ∀ k, x.ownBlock = some k → V.ownBlock = some k → False := by
  intro k e1 e2
  obtain ⟨-, i1, o1, -⟩ := h1
  obtain ⟨-, i2, o2, -⟩ := h2
  obtain ⟨c1, g1⟩ := own_typed o1 k e1
  obtain ⟨c2, g2⟩ := own_typed o2 k e2
  rw [g1] at g2
  simp only [Option.some.injEq, Obj.cells.injEq] at g2
  exact absurd g2.2.1 (by decide)
set_option maxRecDepth 100000 in
set_option maxHeartbeats 8000000 in
theorem vars_go (l : List Int) (A : Option Addr) (c : Nat) (w : World) (hr : Kd.C (Kd.int .i64) w A l.length l) (hc : l.length ≤ c) (hl8 : l.length ≤ 8) (he : l.length % 2 = 0) (h0 : 0 < l.length) (hT : Tabs w) :
    Calls Tryd.prog 22 #[.slice A l.length c] w fun e w' => e = .returned (.bool true) ∧ Below w.heap.size w w' := by
  have HR := Aside0.mk hr
  have HT := Aside0.mk hT
  have n1 : decide ((8 : Int) < (l.length : Int)) = false := by rw [decide_eq_false_iff_not]; omega
  have n2 : (bits .and .i64 (l.length : Int) 1 == 1) = false := by
    rcases (show l.length = 2 ∨ l.length = 4 ∨ l.length = 6 ∨ l.length = 8 by omega) with h | h | h | h <;> rw [h] <;> rfl
  have n3 : ((l.length : Int) == 0) = false := by rw [beq_eq_false_iff_ne]; omega
  obtain ⟨wq, hwq, HB, HN⟩ := boxQ w false none 0 0 none 0 0 none 0 0 (-1) 0
  have HHW := Aside0.mk hwq.symm
  clear hr hwq hT
  go_enter Tryd.func22, Tryd.ntmps22
  go_upto_region 4 with (fail)
  rw [HHW.out]
  go_wp2_with fail
  clear n1 n2 n3
  go_loopw [4, 5] (fun x y wr => ∃ (k : Nat) (ps : List (ByteArray × ByteArray)) (V : Value), 2 * k ≤ l.length ∧ y = .int .i64 ((2 * k : Nat) : Int) ∧ ps.length = k ∧ Aside0 (∀ p ∈ ps, p.1 ∈ names4 ∧ p.2 ∈ names4) ∧ Aside0 (Kd.string.R 9 wr (w.heap.size + 1) (fun _ => True) x (varsL (ps.map patOf))) ∧ Aside0 (kPt.R 78 wr (w.heap.size + 1) (fun _ => True) V ps) ∧
    Aside0 (wr.heap[w.heap.size]? = some (.cells #[.bool false, .slice none 0 0, V, .slice none 0 0, .int .i64 (-1), .int .i64 0] 68 (0, 0))) ∧ Aside0 (Below w.heap.size w wr)) (fun _ y _ => l.length - (intOf y).toNat)
  case atStart => exact ⟨0, [], _, by omega, rfl, rfl, ⟨fun p h => (by cases h)⟩, ⟨Kd.R_nil _ _ _ _ _⟩, ⟨Kd.R_nil _ _ _ _ _⟩, HN, HB⟩
  case round =>
    obtain ⟨wr2, rfl⟩ : ∃ x, x = wr := ⟨wr, rfl⟩
    obtain ⟨k, ps, V, hk, rfl, hpl, HNM, HW, HV, HQ, HBr⟩ := hrel
    subst hpl
    by_cases hin : 2 * ps.length < l.length
    · have hk2 : 2 * ps.length + 1 < l.length := by omega
      obtain ⟨lb, lo, hA, hcl⟩ := int_cells (Kd.C_below HR.out HBr.out) h0
      obtain ⟨n1, hn1⟩ : ∃ n, l[2 * ps.length]? = some n := ⟨_, List.getElem?_eq_getElem hin⟩
      obtain ⟨n2, hn2⟩ : ∃ n, l[2 * ps.length + 1]? = some n := ⟨_, List.getElem?_eq_getElem hk2⟩
      have a1 := hcl _ _ hn1
      have a2 := hcl _ _ hn2
      obtain ⟨m1, hm1, hm1l⟩ := mask3 n1
      obtain ⟨m2, hm2, hm2l⟩ := mask3 n2
      obtain ⟨i, hi⟩ : ∃ i, 2 * ps.length = i := ⟨_, rfl⟩
      rw [hi] at a1 a2 hin hk2 ⊢
      have g0 : (0 : Int) ≤ (i : Int) := by omega
      have g1 : (i : Int) < (l.length : Int) := by omega
      have g2 : (i : Int) + 1 < (l.length : Int) := by omega
      have g3 : IntKind.i64.wrap ((i : Int) + 1) = (i : Int) + 1 := IntWalk.i64_in _ (by omega)
      have g8 : (0 : Int) ≤ (i : Int) + 1 := by omega
      have g9 : ((i : Int) + 1).toNat = i + 1 := by omega
      have g4 : IntKind.i64.wrap (97 + (m1 : Int)) = 97 + (m1 : Int) := IntWalk.i64_in _ (by omega)
      have g5 : IntKind.i64.wrap (97 + (m2 : Int)) = 97 + (m2 : Int) := IntWalk.i64_in _ (by omega)
      have g6 : IntKind.u8.wrap (97 + (m1 : Int)) = 97 + (m1 : Int) := by
        rcases (show m1 = 0 ∨ m1 = 1 ∨ m1 = 2 ∨ m1 = 3 by omega) with h | h | h | h <;> rw [h] <;> rfl
      have g7 : IntKind.u8.wrap (97 + (m2 : Int)) = 97 + (m2 : Int) := by
        rcases (show m2 = 0 ∨ m2 = 1 ∨ m2 = 2 ∨ m2 = 3 by omega) with h | h | h | h <;> rw [h] <;> rfl
      subst hA
      clear hcl hn1 hn2
      go_upto_region 8 with (fail)
      have HS : Aside0 (∀ W, Below wr2.heap.size wr2 W → (fun W : World => W.cell? ⟨lb, lo + i, none⟩ = some (.int .i64 n1) ∧ W.cell? ⟨lb, lo + (i + 1), none⟩ = some (.int .i64 n2)) W) := ⟨fun W h => ⟨pw_cell_below h a1, pw_cell_below h a2⟩⟩
      have hS := HS.out _ (below_drew (Below.refl wr2.heap.size wr2))
      refine wp_region_held (S := (fun W : World => W.cell? ⟨lb, lo + i, none⟩ = some (.int .i64 n1) ∧ W.cell? ⟨lb, lo + (i + 1), none⟩ = some (.int .i64 n2))) (by kernel_rfl) ?_
      change wpAnyH _ _ _ _ _ _ _ _ wr2.drew
      have HBd := Aside0.mk (below_drew (Below.refl wr2.heap.size wr2))
      generalize wr2.drew = wd at hS HBd ⊢
      clear a1 a2
      first | refine tkU 0 hS ?_ | (refine tkV 0 (v := ?_) hS ?_ ?_; rotate_left 1; · (intro w0 hSw; (try dsimp only at hSw); go_split_ands; go_simp; try with_reducible rfl)) | fail
      try simp only [Act.put, pL]
      first | refine tkU 1 hS ?_ | (refine tkV 1 (v := ?_) hS ?_ ?_; rotate_left 1; · (intro w0 hSw; (try dsimp only at hSw); go_split_ands; go_simp; try with_reducible rfl)) | fail
      try simp only [Act.put, pL]
      first | refine tkU 2 hS ?_ | (refine tkV 2 (v := ?_) hS ?_ ?_; rotate_left 1; · (intro w0 hSw; (try dsimp only at hSw); go_split_ands; go_simp; try with_reducible rfl)) | fail
      try simp only [Act.put, pL]
      first | refine tkU 3 hS ?_ | (refine tkV 3 (v := ?_) hS ?_ ?_; rotate_left 1; · (intro w0 hSw; (try dsimp only at hSw); go_split_ands; go_simp; try with_reducible rfl)) | fail
      try simp only [Act.put, pL]
      first | refine tkU 4 hS ?_ | (refine tkV 4 (v := ?_) hS ?_ ?_; rotate_left 1; · (intro w0 hSw; (try dsimp only at hSw); go_split_ands; go_simp; try with_reducible rfl)) | fail
      try simp only [Act.put, pL]
      first | refine tkU 5 hS ?_ | (refine tkV 5 (v := ?_) hS ?_ ?_; rotate_left 1; · (intro w0 hSw; (try dsimp only at hSw); go_split_ands; go_simp; try with_reducible rfl)) | fail
      try simp only [Act.put, pL]
      first | refine tkU 6 hS ?_ | (refine tkV 6 (v := ?_) hS ?_ ?_; rotate_left 1; · (intro w0 hSw; (try dsimp only at hSw); go_split_ands; go_simp; try with_reducible rfl)) | fail
      try simp only [Act.put, pL]
      first | refine tkU 9 hS ?_ | (refine tkV 9 (v := ?_) hS ?_ ?_; rotate_left 1; · (intro w0 hSw; (try dsimp only at hSw); go_split_ands; go_simp; try with_reducible rfl)) | fail
      try simp only [Act.put, pL]
      first | refine tkU 10 hS ?_ | (refine tkV 10 (v := ?_) hS ?_ ?_; rotate_left 1; · (intro w0 hSw; (try dsimp only at hSw); go_split_ands; go_simp; try with_reducible rfl)) | fail
      try simp only [Act.put, pL]
      first | refine tkU 11 hS ?_ | (refine tkV 11 (v := ?_) hS ?_ ?_; rotate_left 1; · (intro w0 hSw; (try dsimp only at hSw); go_split_ands; go_simp; try with_reducible rfl)) | fail
      try simp only [Act.put, pL]
      first | refine tkU 12 hS ?_ | (refine tkV 12 (v := ?_) hS ?_ ?_; rotate_left 1; · (intro w0 hSw; (try dsimp only at hSw); go_split_ands; go_simp; try with_reducible rfl)) | fail
      try simp only [Act.put, pL]
      first | refine tkU 13 hS ?_ | (refine tkV 13 (v := ?_) hS ?_ ?_; rotate_left 1; · (intro w0 hSw; (try dsimp only at hSw); go_split_ands; go_simp; try with_reducible rfl)) | fail
      try simp only [Act.put, pL]
      first | refine tkU 14 hS ?_ | (refine tkV 14 (v := ?_) hS ?_ ?_; rotate_left 1; · (intro w0 hSw; (try dsimp only at hSw); go_split_ands; go_simp; try with_reducible rfl)) | fail
      try simp only [Act.put, pL]
      first | refine tkU 15 hS ?_ | (refine tkV 15 (v := ?_) hS ?_ ?_; rotate_left 1; · (intro w0 hSw; (try dsimp only at hSw); go_split_ands; go_simp; try with_reducible rfl)) | fail
      try simp only [Act.put, pL]
      first | refine tkU 16 hS ?_ | (refine tkV 16 (v := ?_) hS ?_ ?_; rotate_left 1; · (intro w0 hSw; (try dsimp only at hSw); go_split_ands; go_simp; try with_reducible rfl)) | fail
      try simp only [Act.put, pL]
      refine wpAnyH_ready (rs := [7, 17]) (by kernel_rfl) (by simp) ?_
      refine AllReadyH.cons rfl (fun K hK => ?_) (AllReadyH.cons rfl (fun K hK => ?_) AllReadyH.nil)
      go_simp
      obtain ⟨w1, hw1, H1, HN1, hs1⟩ := boxO wd #[.int .u8 (97 + (m1 : Int))] 5
      rw [← hw1]
      clear hw1
      have hS1 : (fun W : World => W.cell? ⟨lb, lo + i, none⟩ = some (.int .i64 n1) ∧ W.cell? ⟨lb, lo + (i + 1), none⟩ = some (.int .i64 n2)) w1 := ⟨pw_cell_below H1.out hS.1, pw_cell_below H1.out hS.2⟩
      have hT1 : (fun W : World => (W.cell? ⟨lb, lo + i, none⟩ = some (.int .i64 n1) ∧ W.cell? ⟨lb, lo + (i + 1), none⟩ = some (.int .i64 n2)) ∧ (convert 72 9 (.slice (some ⟨wd.heap.size, 0, none⟩) 1 1)).run Tryd.prog W = .ok (.string (nmB m1)) W) w1 := ⟨hS1, conv_one hm1l HN1.out⟩
      clear hS
      refine hK.out _ _ hS1 (fun _ => ?_)
      clear hK K hS1
      try simp only [Act.put, pL]
      refine held_more (S' := (fun W : World => (W.cell? ⟨lb, lo + i, none⟩ = some (.int .i64 n1) ∧ W.cell? ⟨lb, lo + (i + 1), none⟩ = some (.int .i64 n2)) ∧ (convert 72 9 (.slice (some ⟨wd.heap.size, 0, none⟩) 1 1)).run Tryd.prog W = .ok (.string (nmB m1)) W)) (fun _ h => h.1) _ _ _ _ ?_
      first | refine tkU 8 hT1 ?_ | (refine tkV 8 (v := ?_) hT1 ?_ ?_; rotate_left 1; · (intro w0 hSw; (try dsimp only at hSw); go_split_ands; go_simp; try with_reducible rfl)) | fail
      try simp only [Act.put, pL]
      first | refine tkU 19 hT1 ?_ | (refine tkV 19 (v := ?_) hT1 ?_ ?_; rotate_left 1; · (intro w0 hSw; (try dsimp only at hSw); go_split_ands; go_simp; try with_reducible rfl)) | fail
      try simp only [Act.put, pL]
      refine wpAnyH_ready (rs := [17]) (by kernel_rfl) (by simp) ?_
      refine AllReadyH.cons rfl (fun K hK => ?_) AllReadyH.nil
      go_simp
      obtain ⟨w2, hw2, H2, HN2, hs2⟩ := boxO w1 #[.int .u8 (97 + (m2 : Int))] 5
      rw [← hw2]
      clear hw2
      rw [hs1] at HN2
      have hS2 : (fun W : World => (W.cell? ⟨lb, lo + i, none⟩ = some (.int .i64 n1) ∧ W.cell? ⟨lb, lo + (i + 1), none⟩ = some (.int .i64 n2)) ∧ (convert 72 9 (.slice (some ⟨wd.heap.size, 0, none⟩) 1 1)).run Tryd.prog W = .ok (.string (nmB m1)) W) w2 := ⟨⟨pw_cell_below H2.out hT1.1.1, pw_cell_below H2.out hT1.1.2⟩, conv_one hm1l (blk_below HN1.out H2.out)⟩
      have hT2 : (fun W : World => ((W.cell? ⟨lb, lo + i, none⟩ = some (.int .i64 n1) ∧ W.cell? ⟨lb, lo + (i + 1), none⟩ = some (.int .i64 n2)) ∧ (convert 72 9 (.slice (some ⟨wd.heap.size, 0, none⟩) 1 1)).run Tryd.prog W = .ok (.string (nmB m1)) W) ∧ (convert 72 9 (.slice (some ⟨(wd.heap.size + 1), 0, none⟩) 1 1)).run Tryd.prog W = .ok (.string (nmB m2)) W) w2 := ⟨hS2, conv_one hm2l HN2.out⟩
      clear hT1
      refine hK.out _ _ hS2 (fun _ => ?_)
      clear hK K hS2
      try simp only [Act.put, pL]
      refine held_more (S' := (fun W : World => ((W.cell? ⟨lb, lo + i, none⟩ = some (.int .i64 n1) ∧ W.cell? ⟨lb, lo + (i + 1), none⟩ = some (.int .i64 n2)) ∧ (convert 72 9 (.slice (some ⟨wd.heap.size, 0, none⟩) 1 1)).run Tryd.prog W = .ok (.string (nmB m1)) W) ∧ (convert 72 9 (.slice (some ⟨(wd.heap.size + 1), 0, none⟩) 1 1)).run Tryd.prog W = .ok (.string (nmB m2)) W)) (fun _ h => h.1) _ _ _ _ ?_
      first | refine tkU 18 hT2 ?_ | (refine tkV 18 (v := ?_) hT2 ?_ ?_; rotate_left 1; · (intro w0 hSw; (try dsimp only at hSw); go_split_ands; go_simp; try with_reducible rfl)) | fail
      try simp only [Act.put, pL]
      first | refine tkU 20 hT2 ?_ | (refine tkV 20 (v := ?_) hT2 ?_ ?_; rotate_left 1; · (intro w0 hSw; (try dsimp only at hSw); go_split_ands; go_simp; try with_reducible rfl)) | fail
      try simp only [Act.put, pL]
      refine wpAnyH_done (by kernel_rfl) ?_ _
      have HBw := Aside0.mk (below_then (below_then HBd.out HBd.out.size H1.out) (Nat.le_trans HBd.out.size H1.out.size) H2.out)
      have hlw := Nat.le_trans H1.out.size H2.out.size
      clear hT2 hs1 hs2 H1 H2 HN1 HN2
      rotate_left 1
      go_simp
      obtain ⟨w1, hw1, H1, HN1, hs1⟩ := boxO wd #[.int .u8 (97 + (m2 : Int))] 5
      rw [← hw1]
      clear hw1
      have hS1 : (fun W : World => W.cell? ⟨lb, lo + i, none⟩ = some (.int .i64 n1) ∧ W.cell? ⟨lb, lo + (i + 1), none⟩ = some (.int .i64 n2)) w1 := ⟨pw_cell_below H1.out hS.1, pw_cell_below H1.out hS.2⟩
      have hT1 : (fun W : World => (W.cell? ⟨lb, lo + i, none⟩ = some (.int .i64 n1) ∧ W.cell? ⟨lb, lo + (i + 1), none⟩ = some (.int .i64 n2)) ∧ (convert 72 9 (.slice (some ⟨wd.heap.size, 0, none⟩) 1 1)).run Tryd.prog W = .ok (.string (nmB m2)) W) w1 := ⟨hS1, conv_one hm2l HN1.out⟩
      clear hS
      refine hK.out _ _ hS1 (fun _ => ?_)
      clear hK K hS1
      try simp only [Act.put, pL]
      refine held_more (S' := (fun W : World => (W.cell? ⟨lb, lo + i, none⟩ = some (.int .i64 n1) ∧ W.cell? ⟨lb, lo + (i + 1), none⟩ = some (.int .i64 n2)) ∧ (convert 72 9 (.slice (some ⟨wd.heap.size, 0, none⟩) 1 1)).run Tryd.prog W = .ok (.string (nmB m2)) W)) (fun _ h => h.1) _ _ _ _ ?_
      first | refine tkU 18 hT1 ?_ | (refine tkV 18 (v := ?_) hT1 ?_ ?_; rotate_left 1; · (intro w0 hSw; (try dsimp only at hSw); go_split_ands; go_simp; try with_reducible rfl)) | fail
      try simp only [Act.put, pL]
      refine wpAnyH_ready (rs := [7]) (by kernel_rfl) (by simp) ?_
      refine AllReadyH.cons rfl (fun K hK => ?_) AllReadyH.nil
      go_simp
      obtain ⟨w2, hw2, H2, HN2, hs2⟩ := boxO w1 #[.int .u8 (97 + (m1 : Int))] 5
      rw [← hw2]
      clear hw2
      rw [hs1] at HN2
      have hS2 : (fun W : World => (W.cell? ⟨lb, lo + i, none⟩ = some (.int .i64 n1) ∧ W.cell? ⟨lb, lo + (i + 1), none⟩ = some (.int .i64 n2)) ∧ (convert 72 9 (.slice (some ⟨wd.heap.size, 0, none⟩) 1 1)).run Tryd.prog W = .ok (.string (nmB m2)) W) w2 := ⟨⟨pw_cell_below H2.out hT1.1.1, pw_cell_below H2.out hT1.1.2⟩, conv_one hm2l (blk_below HN1.out H2.out)⟩
      have hT2 : (fun W : World => ((W.cell? ⟨lb, lo + i, none⟩ = some (.int .i64 n1) ∧ W.cell? ⟨lb, lo + (i + 1), none⟩ = some (.int .i64 n2)) ∧ (convert 72 9 (.slice (some ⟨wd.heap.size, 0, none⟩) 1 1)).run Tryd.prog W = .ok (.string (nmB m2)) W) ∧ (convert 72 9 (.slice (some ⟨(wd.heap.size + 1), 0, none⟩) 1 1)).run Tryd.prog W = .ok (.string (nmB m1)) W) w2 := ⟨hS2, conv_one hm1l HN2.out⟩
      clear hT1
      refine hK.out _ _ hS2 (fun _ => ?_)
      clear hK K hS2
      try simp only [Act.put, pL]
      refine held_more (S' := (fun W : World => ((W.cell? ⟨lb, lo + i, none⟩ = some (.int .i64 n1) ∧ W.cell? ⟨lb, lo + (i + 1), none⟩ = some (.int .i64 n2)) ∧ (convert 72 9 (.slice (some ⟨wd.heap.size, 0, none⟩) 1 1)).run Tryd.prog W = .ok (.string (nmB m2)) W) ∧ (convert 72 9 (.slice (some ⟨(wd.heap.size + 1), 0, none⟩) 1 1)).run Tryd.prog W = .ok (.string (nmB m1)) W)) (fun _ h => h.1) _ _ _ _ ?_
      first | refine tkU 8 hT2 ?_ | (refine tkV 8 (v := ?_) hT2 ?_ ?_; rotate_left 1; · (intro w0 hSw; (try dsimp only at hSw); go_split_ands; go_simp; try with_reducible rfl)) | fail
      try simp only [Act.put, pL]
      first | refine tkU 19 hT2 ?_ | (refine tkV 19 (v := ?_) hT2 ?_ ?_; rotate_left 1; · (intro w0 hSw; (try dsimp only at hSw); go_split_ands; go_simp; try with_reducible rfl)) | fail
      try simp only [Act.put, pL]
      first | refine tkU 20 hT2 ?_ | (refine tkV 20 (v := ?_) hT2 ?_ ?_; rotate_left 1; · (intro w0 hSw; (try dsimp only at hSw); go_split_ands; go_simp; try with_reducible rfl)) | fail
      try simp only [Act.put, pL]
      refine wpAnyH_done (by kernel_rfl) ?_ _
      have HBw := Aside0.mk (below_then (below_then HBd.out HBd.out.size H1.out) (Nat.le_trans HBd.out.size H1.out.size) H2.out)
      have hlw := Nat.le_trans H1.out.size H2.out.size
      clear hT2 hs1 hs2 H1 H2 HN1 HN2
      rotate_left 1
      all_goals
        have hqs : w.heap.size < wr2.heap.size := by
          by_cases hlt : w.heap.size < wr2.heap.size
          · exact hlt
          · have := HQ.out
            rw [Array.getElem?_eq_none (by omega)] at this
            cases this
        have HW2 := Aside0.mk (Kd.R_step HW.out (fun k hk hl => HBw.out.block k hl))
        have HV2 := Aside0.mk (Kd.R_step HV.out (fun k hk hl => HBw.out.block k hl))
        have HQ2 := Aside0.mk ((HBw.out.block _ hqs).trans HQ.out)
        have HBr2 := Aside0.mk (below_then HBr.out HBr.out.size HBw.out)
        have hs2 : w.heap.size + 1 ≤ w2.heap.size := Nat.le_trans hqs HBw.out.size
        clear HW HV HQ HBr HBw hlw HBd HS
        have q2 := blk_cell HQ2.out 2
        have k2 := blk_frozen HQ2.out 2
        simp at q2
        go_upto_region 10 with ((with_reducible refine gate_builtin (b := .append) (xs := #[.tmp 51, .tmp 58]) rfl ?_); at_builtin; refine Kd.R_append kPt (w0 := w2) (w.heap.size + 1) rfl (.tmp 51) (.tmp 58) 65 78 (.agg #[.string ⟨#[]⟩, .int .i64 0, .string ⟨#[]⟩, .string ⟨#[]⟩, .int .i64 0, .string ⟨#[]⟩, .slice none 0 0, .slice none 0 0, .string ⟨#[]⟩, .int .i64 0, .string ⟨#[]⟩, .string ⟨#[]⟩]) 184 rfl Tryd.underlying65 info_pat rfl (by decide) (by omega) V ps (nmB m1, nmB m2) (cP (nmB m1, nmB m2)) (fun _ => True) (fun _ => False) rfl rfl ?aP (fun _ hk => hk.elim) ?aF ?aO ?aB ?aS ?aL ?_; (case aP => exact rfl); (case aB => exact Below.refl _ _); (case aF => exact (fun _ _ => trivial)); (case aO => exact HV2.out); (case aS => exact hs2); (case aL => omega); intro V7 w7 ho hb hg hat; obtain ⟨A7, c7, hv7⟩ := Kd.R_slice ho; rw [show (ps ++ [(nmB m1, nmB m2)]).length = ps.length + 1 by simp] at hv7; subst hv7; have HO7 := Aside0.mk ho; have HG7 := Aside0.mk hg; have HB7 := Aside0.mk hb; have HQ7 := Aside0.mk ((hb.block _ (by omega)).trans HQ2.out); clear ho hb hg hat q2 k2; have q2 := blk_cell HQ7.out 2; have k2 := blk_frozen HQ7.out 2; simp at q2)
        obtain ⟨w8, hw8⟩ : ∃ x, x = w7.setCell ⟨w.heap.size, 2, none⟩ (.slice A7 (ps.length + 1) c7) := ⟨_, rfl⟩
        rw [← hw8]
        have h78 : ∀ (g : Nat), g ≠ w.heap.size → w8.heap[g]? = w7.heap[g]? := fun g hg => by rw [hw8]; exact Below.heap_setCell _ ⟨w.heap.size, 2, none⟩ _ g hg
        have HQ8 : Aside0 (w8.heap[w.heap.size]? = some (.cells #[.bool false, .slice none 0 0, .slice A7 (ps.length + 1) c7, .slice none 0 0, .int .i64 (-1), .int .i64 0] 68 (0, 0))) := ⟨by rw [hw8]; exact six_set HQ7.out _⟩
        have HV8 : Aside0 (kPt.R 78 w8 (w.heap.size + 1) (fun _ => True) (.slice A7 (ps.length + 1) c7) (ps ++ [(nmB m1, nmB m2)])) := ⟨Kd.R_mono (Kd.R_step (Kd.R_bound HO7.out) (fun k hk hl => h78 k (by have := hk.2.1; omega))) (fun _ _ => trivial)⟩
        have hs8 : w8.heap.size = w7.heap.size := by rw [hw8]; simp [World.setCell]
        have HB8 : Aside0 (Below w.heap.size w2 w8) := ⟨by rw [hw8]; exact Below.setCell (p := ⟨w.heap.size, 2, none⟩) (HB7.out.mono (Nat.le_succ _)) (Nat.le_refl _) _⟩
        have HWo := Kd.R_of_own (enc := Value.string) (h1 := fun _ => rfl) (ok := fun k => u4.ownBlock = some k) (Kd.own_of_R HW2.out) (fun _ hk => hk)
        have HW8 : Aside0 (Kd.string.R 9 w8 (w.heap.size + 1) (fun _ => True) u4 (varsL (ps.map patOf))) := ⟨Kd.R_mono (Kd.R_step (Kd.R_bound HWo) (fun k hk hl => (h78 k (by have := hk.2.1; omega)).trans (HG7.out.block k hl (fun e => rows_apart HW2.out HV2.out k hk.1 e.symm)))) (fun _ _ => trivial)⟩
        have hs9 : w.heap.size + 1 ≤ w8.heap.size := by have := HB8.out.size; omega
        have HBR := Aside0.mk (HBr2.out.trans HB8.out)
        have hvl := varsL_len (ps.map patOf) (ps.map patOf).length (Nat.le_refl _)
        rw [List.take_length, List.length_map] at hvl
        have HADD : Aside0 (addV (addV (varsL (ps.map patOf)) (nmB m1)) (nmB m2) = varsL ((ps ++ [(nmB m1, nmB m2)]).map patOf)) := ⟨by unfold varsL; rw [List.map_append, List.foldl_append]; rfl⟩
        have HNM2 : Aside0 (∀ p ∈ ps ++ [(nmB m1, nmB m2)], p.1 ∈ names4 ∧ p.2 ∈ names4) := ⟨fun p hp => by
          rcases List.mem_append.1 hp with h | h
          · exact HNM.out p h
          · rw [List.mem_singleton] at h
            subst h
            exact ⟨nm_mem hm1l, nm_mem hm2l⟩⟩
        obtain ⟨l0, hl0⟩ : ∃ x, varsL (ps.map patOf) = x := ⟨_, rfl⟩
        rw [hl0] at HW8 HADD hvl
        obtain ⟨E0, e0, hv0, hle0, hte0⟩ := ts_of_R HW8.out
        clear hw8 h78 hs8 HWo HW2 HV2 HQ2 HO7 HG7 HB7 HQ7 HBr2 HB8 hl0
        subst hv0
        have hte1 := hte0
        have CC1 := Aside0.mk (place_any hte1 e0 (nmB m1))
        have HIF1 := Aside0.mk (Lib.containsS_iff l0 (nmB m1))
        clear hte1
        cases hb1 : Lib.containsS l0 (nmB m1) with
        | true =>
          have HM1 : Aside0 ((nmB m1) ∈ l0) := ⟨HIF1.out.1 hb1⟩
          have HA1 : Aside0 (addV l0 (nmB m1) = l0) := ⟨by unfold addV; rw [if_pos (.inr hb1)]⟩
          rw [HA1.out] at HADD
          clear hb1
          go_upto_region 12 with (go_at_call 46; (with_reducible refine CC1.out.mono ?_); rintro e w5 ⟨x5, rfl, hin5, hout5, hw5⟩; obtain rfl := hw5.symm; obtain ⟨y1, y1b⟩ := hin5 HM1.out; clear hin5 hout5)
          obtain ⟨l1, hl1⟩ : ∃ x, l0 = x := ⟨_, rfl⟩
          have hlen1 : l1.length ≤ 2 * ps.length + 1 := by rw [← hl1]; first | omega | (rw [List.length_append]; show l0.length + 1 ≤ _; omega)
          rw [hl1] at HW8 HADD
          try rw [hl1]
          obtain ⟨E1, e1, hv1, hle1, hte2⟩ := ts_of_R HW8.out
          simp only [Value.slice.injEq] at hv1
          obtain ⟨rfl, -, rfl⟩ := hv1
          subst hl1
          have CC2 := Aside0.mk (place_any hte2 e0 (nmB m2))
          have HIF2 := Aside0.mk (Lib.containsS_iff l0 (nmB m2))
          clear hte2
          cases hb2 : Lib.containsS l0 (nmB m2) with
          | true =>
            have HM2 : Aside0 ((nmB m2) ∈ l0) := ⟨HIF2.out.1 hb2⟩
            have HA2 : Aside0 (addV l0 (nmB m2) = l0) := ⟨by unfold addV; rw [if_pos (.inr hb2)]⟩
            rw [HA2.out] at HADD
            clear hb2
            go_wp2_with (go_at_call 46; (with_reducible refine CC2.out.mono ?_); rintro e w5 ⟨x5, rfl, hin5, hout5, hw5⟩; obtain rfl := hw5.symm; obtain ⟨y2, y2b⟩ := hin5 HM2.out; clear hin5 hout5)
            go_roundw
            case rel => exact ⟨ps.length + 1, ps ++ [(nmB m1, nmB m2)], _, by omega, by go_num, by simp, HNM2, ⟨by rw [← HADD.out]; exact HW8.out⟩, HV8, HQ8, HBR⟩
            case measure => simp [intOf]; omega
          | false =>
            have HM2 : Aside0 ((nmB m2) ∉ l0) := ⟨fun h => by rw [HIF2.out.2 h] at hb2; cases hb2⟩
            have HA2 : Aside0 (addV l0 (nmB m2) = l0 ++ [(nmB m2)]) := ⟨by unfold addV; rw [if_neg (fun h => h.elim (fun h => by rw [nm_size] at h; cases h) (fun h => by rw [hb2] at h; cases h))]⟩
            rw [HA2.out] at HADD
            clear hb2
            go_wp2_with (first
              | (go_at_call 46; (with_reducible refine CC2.out.mono ?_); rintro e w5 ⟨x5, rfl, hin5, hout5, hw5⟩; obtain rfl := hw5.symm; obtain ⟨y2, y2b⟩ := hout5 HM2.out; clear hin5 hout5)
              | ((with_reducible refine gate_builtin (b := .append) (xs := #[.tmp 73, .tmp 75]) rfl ?_); at_builtin; refine Kd.R_append Kd.string (w0 := w8) (w.heap.size + 1) rfl (.tmp 73) (.tmp 75) 22 9 (.string ⟨#[]⟩) 16 rfl Tryd.underlying22 qinfo_str rfl (by decide) (by omega) (.slice E0 l0.length e0) l0 (nmB m2) [.string (nmB m2)] (fun _ => True) (fun _ => False) rfl rfl ?aP (fun _ hk => hk.elim) ?aF ?aO ?aB ?aS ?aL ?_; (case aP => exact rfl); (case aB => exact Below.refl _ _); (case aF => exact (fun _ _ => trivial)); (case aO => exact HW8.out); (case aS => omega); (case aL => omega); intro Vn2 wn2 ho hb hg hat; have HWn2 := Aside0.mk ho; have HGn2 := Aside0.mk hg; have HBn2 := Aside0.mk hb; clear ho hb hg hat))
            have HVo2 : kPt.R 78 w8 (w.heap.size + 1) (fun k => (Value.slice A7 (ps.length + 1) c7).ownBlock = some k) (Value.slice A7 (ps.length + 1) c7) (ps ++ [(nmB m1, nmB m2)]) := ⟨fun _ hk => hk, HV8.out.2⟩
            have HVn2 : Aside0 (kPt.R 78 wn2 (w.heap.size + 1) (fun _ => True) (Value.slice A7 (ps.length + 1) c7) (ps ++ [(nmB m1, nmB m2)])) := ⟨Kd.R_mono (Kd.R_step (Kd.R_bound HVo2) (fun k hk hl => HGn2.out.block k hl (fun e => rows_apart HW8.out HV8.out k e.symm hk.1))) (fun _ _ => trivial)⟩
            have HQn2 := Aside0.mk ((HBn2.out.block w.heap.size (by omega)).trans HQ8.out)
            have HBRn2 := Aside0.mk (HBR.out.trans (HBn2.out.mono (Nat.le_succ _)))
            have hsn2 : w.heap.size + 1 ≤ wn2.heap.size := by have := HBn2.out.size; omega
            clear HVo2
            go_roundw
            case rel => exact ⟨ps.length + 1, ps ++ [(nmB m1, nmB m2)], _, by omega, by go_num, by simp, HNM2, ⟨by rw [← HADD.out]; exact HWn2.out⟩, HVn2, HQn2, HBRn2⟩
            case measure => simp [intOf]; omega
        | false =>
          have HM1 : Aside0 ((nmB m1) ∉ l0) := ⟨fun h => by rw [HIF1.out.2 h] at hb1; cases hb1⟩
          have HA1 : Aside0 (addV l0 (nmB m1) = l0 ++ [(nmB m1)]) := ⟨by unfold addV; rw [if_neg (fun h => h.elim (fun h => by rw [nm_size] at h; cases h) (fun h => by rw [hb1] at h; cases h))]⟩
          rw [HA1.out] at HADD
          clear hb1
          go_upto_region 12 with (first
            | (go_at_call 46; (with_reducible refine CC1.out.mono ?_); rintro e w5 ⟨x5, rfl, hin5, hout5, hw5⟩; obtain rfl := hw5.symm; obtain ⟨y1, y1b⟩ := hout5 HM1.out; clear hin5 hout5)
            | ((with_reducible refine gate_builtin (b := .append) (xs := #[.tmp 65, .tmp 67]) rfl ?_); at_builtin; refine Kd.R_append Kd.string (w0 := w8) (w.heap.size + 1) rfl (.tmp 65) (.tmp 67) 22 9 (.string ⟨#[]⟩) 16 rfl Tryd.underlying22 qinfo_str rfl (by decide) (by omega) (.slice E0 l0.length e0) l0 (nmB m1) [.string (nmB m1)] (fun _ => True) (fun _ => False) rfl rfl ?aP (fun _ hk => hk.elim) ?aF ?aO ?aB ?aS ?aL ?_; (case aP => exact rfl); (case aB => exact Below.refl _ _); (case aF => exact (fun _ _ => trivial)); (case aO => exact HW8.out); (case aS => omega); (case aL => omega); intro Vn1 wn1 ho hb hg hat; have HWn1 := Aside0.mk ho; have HGn1 := Aside0.mk hg; have HBn1 := Aside0.mk hb; clear ho hb hg hat))
          have HVo1 : kPt.R 78 w8 (w.heap.size + 1) (fun k => (Value.slice A7 (ps.length + 1) c7).ownBlock = some k) (Value.slice A7 (ps.length + 1) c7) (ps ++ [(nmB m1, nmB m2)]) := ⟨fun _ hk => hk, HV8.out.2⟩
          have HVn1 : Aside0 (kPt.R 78 wn1 (w.heap.size + 1) (fun _ => True) (Value.slice A7 (ps.length + 1) c7) (ps ++ [(nmB m1, nmB m2)])) := ⟨Kd.R_mono (Kd.R_step (Kd.R_bound HVo1) (fun k hk hl => HGn1.out.block k hl (fun e => rows_apart HW8.out HV8.out k e.symm hk.1))) (fun _ _ => trivial)⟩
          have HQn1 := Aside0.mk ((HBn1.out.block w.heap.size (by omega)).trans HQ8.out)
          have HBRn1 := Aside0.mk (HBR.out.trans (HBn1.out.mono (Nat.le_succ _)))
          have hsn1 : w.heap.size + 1 ≤ wn1.heap.size := by have := HBn1.out.size; omega
          clear HVo1
          obtain ⟨l1, hl1⟩ : ∃ x, (l0 ++ [(nmB m1)]) = x := ⟨_, rfl⟩
          have hlen1 : l1.length ≤ 2 * ps.length + 1 := by rw [← hl1]; first | omega | (rw [List.length_append]; show l0.length + 1 ≤ _; omega)
          rw [hl1] at HWn1 HADD
          try rw [hl1]
          obtain ⟨E1, e1, hv1, hle1, hte2⟩ := ts_of_R HWn1.out
          subst hv1
          clear hl1
          have CC2 := Aside0.mk (place_any hte2 e1 (nmB m2))
          have HIF2 := Aside0.mk (Lib.containsS_iff l1 (nmB m2))
          clear hte2
          cases hb2 : Lib.containsS l1 (nmB m2) with
          | true =>
            have HM2 : Aside0 ((nmB m2) ∈ l1) := ⟨HIF2.out.1 hb2⟩
            have HA2 : Aside0 (addV l1 (nmB m2) = l1) := ⟨by unfold addV; rw [if_pos (.inr hb2)]⟩
            rw [HA2.out] at HADD
            clear hb2
            go_wp2_with (go_at_call 46; (with_reducible refine CC2.out.mono ?_); rintro e w5 ⟨x5, rfl, hin5, hout5, hw5⟩; obtain rfl := hw5.symm; obtain ⟨y2, y2b⟩ := hin5 HM2.out; clear hin5 hout5)
            go_roundw
            case rel => exact ⟨ps.length + 1, ps ++ [(nmB m1, nmB m2)], _, by omega, by go_num, by simp, HNM2, ⟨by rw [← HADD.out]; exact HWn1.out⟩, HVn1, HQn1, HBRn1⟩
            case measure => simp [intOf]; omega
          | false =>
            have HM2 : Aside0 ((nmB m2) ∉ l1) := ⟨fun h => by rw [HIF2.out.2 h] at hb2; cases hb2⟩
            have HA2 : Aside0 (addV l1 (nmB m2) = l1 ++ [(nmB m2)]) := ⟨by unfold addV; rw [if_neg (fun h => h.elim (fun h => by rw [nm_size] at h; cases h) (fun h => by rw [hb2] at h; cases h))]⟩
            rw [HA2.out] at HADD
            clear hb2
            go_wp2_with (first
              | (go_at_call 46; (with_reducible refine CC2.out.mono ?_); rintro e w5 ⟨x5, rfl, hin5, hout5, hw5⟩; obtain rfl := hw5.symm; obtain ⟨y2, y2b⟩ := hout5 HM2.out; clear hin5 hout5)
              | ((with_reducible refine gate_builtin (b := .append) (xs := #[.tmp 73, .tmp 75]) rfl ?_); at_builtin; refine Kd.R_append Kd.string (w0 := wn1) (w.heap.size + 1) rfl (.tmp 73) (.tmp 75) 22 9 (.string ⟨#[]⟩) 16 rfl Tryd.underlying22 qinfo_str rfl (by decide) (by omega) (.slice E1 l1.length e1) l1 (nmB m2) [.string (nmB m2)] (fun _ => True) (fun _ => False) rfl rfl ?aP (fun _ hk => hk.elim) ?aF ?aO ?aB ?aS ?aL ?_; (case aP => exact rfl); (case aB => exact Below.refl _ _); (case aF => exact (fun _ _ => trivial)); (case aO => exact HWn1.out); (case aS => omega); (case aL => omega); intro Vn2 wn2 ho hb hg hat; have HWn2 := Aside0.mk ho; have HGn2 := Aside0.mk hg; have HBn2 := Aside0.mk hb; clear ho hb hg hat))
            have HVo2 : kPt.R 78 wn1 (w.heap.size + 1) (fun k => (Value.slice A7 (ps.length + 1) c7).ownBlock = some k) (Value.slice A7 (ps.length + 1) c7) (ps ++ [(nmB m1, nmB m2)]) := ⟨fun _ hk => hk, HVn1.out.2⟩
            have HVn2 : Aside0 (kPt.R 78 wn2 (w.heap.size + 1) (fun _ => True) (Value.slice A7 (ps.length + 1) c7) (ps ++ [(nmB m1, nmB m2)])) := ⟨Kd.R_mono (Kd.R_step (Kd.R_bound HVo2) (fun k hk hl => HGn2.out.block k hl (fun e => rows_apart HWn1.out HVn1.out k e.symm hk.1))) (fun _ _ => trivial)⟩
            have HQn2 := Aside0.mk ((HBn2.out.block w.heap.size (by omega)).trans HQn1.out)
            have HBRn2 := Aside0.mk (HBRn1.out.trans (HBn2.out.mono (Nat.le_succ _)))
            have hsn2 : w.heap.size + 1 ≤ wn2.heap.size := by have := HBn2.out.size; omega
            clear HVo2
            go_roundw
            case rel => exact ⟨ps.length + 1, ps ++ [(nmB m1, nmB m2)], _, by omega, by go_num, by simp, HNM2, ⟨by rw [← HADD.out]; exact HWn2.out⟩, HVn2, HQn2, HBRn2⟩
            case measure => simp [intOf]; omega
    · have hps : 2 * ps.length = l.length := by omega
      obtain ⟨B, c9, hV9, hrow⟩ := rows_of HV.out
      subst hV9
      have hlp : ∀ p ∈ ps.map patOf, Lp p := fun p hp => by
        obtain ⟨x, hx, rfl⟩ := List.mem_map.1 hp
        exact ⟨x.1, x.2, (HNM.out x hx).1, (HNM.out x hx).2, rfl⟩
      have hml : (ps.map patOf).length = ps.length := List.length_map ..
      have hnar := qOf_nar hlp (by rw [hml]; omega)
      have hisq := qOf_is hlp (by rw [hml]; omega) (by rw [hml]; omega)
      have HTr := HT.out.below HBr.out
      obtain ⟨E0, e0, hv0, hle0, hte0⟩ := ts_of_R HW.out
      subst hv0
      have CV : Aside0 (Calls Tryd.prog 48 #[.agg #[.bool false, .slice none 0 0, .slice B ps.length c9, .slice none 0 0, .int .i64 (-1), .int .i64 0]] wr2 (VarsP wr2 (varsL (ps.map patOf)))) := ⟨by
        have := vars_any (qOf (ps.map patOf)) wr2 none 0 B c9 none 0 hrow (by show (ps.map patOf).length ≤ 1000; rw [hml]; omega)
        unfold qOf at this
        simp only [List.length_nil, hml] at this
        exact this⟩
      have CI : Aside0 (∀ W, Below wr2.heap.size wr2 W → Calls Tryd.prog 50 #[.agg #[.bool false, .slice none 0 0, .slice B ps.length c9, .slice none 0 0, .int .i64 (-1), .int .i64 0]] W fun e w' => e = .returned (.bool true) ∧ Below W.heap.size W w') := ⟨fun W h => by
        have := is_any_q is_c3 (qOf (ps.map patOf)) hnar W none 0 B c9 none 0 (by show 0 ≤ 0; omega) ⟨by show 0 ≤ _; omega, fun h => by cases h⟩ (hrow.below h (fun a cs h2 => h2.below h)) (fun i a ha => by cases ha) (HTr.below h)
        unfold qOf at this
        simp only [List.length_nil, hml] at this
        refine this.mono fun e w' hp => ?_
        obtain ⟨b, h1, h2, h3⟩ := hp
        have : b = true := h2.2 hisq
        subst this
        exact ⟨h1, h3⟩⟩
      have CK : Aside0 (∀ W, Below wr2.heap.size wr2 W → Calls Tryd.prog 28 #[] W fun e w' => e = .returned (.bool true) ∧ Below W.heap.size W w') := ⟨fun W h => known_any W (HTr.below h)⟩
      have hvb := varsL_len (ps.map patOf) (ps.map patOf).length (Nat.le_refl _)
      rw [List.take_length, hml] at hvb
      obtain ⟨vl, hvl⟩ : ∃ x, varsL (ps.map patOf) = x := ⟨_, rfl⟩
      rw [hvl] at CV hte0 hle0 hvb ⊢
      have hvb8 : vl.length ≤ 8 := by omega
      have HTE := Aside0.mk (hte0.mono (ok' := anyB) (fun _ _ _ => trivial))
      have q0 := blk_cell HQ.out 0
      have q1 := blk_cell HQ.out 1
      have q2 := blk_cell HQ.out 2
      have q3 := blk_cell HQ.out 3
      have q4 := blk_cell HQ.out 4
      have q5 := blk_cell HQ.out 5
      simp at q0 q1 q2 q3 q4 q5
      have gi : decide (((2 * ps.length : Nat) : Int) < (l.length : Int)) = false := by rw [decide_eq_false_iff_not]; omega
      have gin : decide (2 * ps.length < l.length) = false := by rw [decide_eq_false_iff_not]; omega
      clear hrow hlp hnar hisq HTr hvl hte0 HW HV HNM hin hk
      go_upto_region 15 with (go_at_call 48; (with_reducible refine CV.out.mono ?_); rintro e wx ⟨E1, e1, rfl, hle1, hte1, hb⟩; have HBx := Aside0.mk hb; have HE1 := Aside0.mk hte1; have HE0 := Aside0.mk (HTE.out.move (fun g _ hg => hb.block g hg)); have HQx := Aside0.mk (blk_below HQ.out hb); clear hb hte1)
      go_wp2_with fail
      clear gi gin q0 q1 q2 q3 q4 q5
      go_loopw [9] (fun u wr => ∃ i : Nat, i ≤ vl.length ∧ u = .int .i64 i ∧ Aside0 (Below wr2.heap.size wr2 wr) ∧ Aside0 (TsAt wr anyB E1 vl) ∧ Aside0 (TsAt wr anyB E0 vl)) (fun u _ => vl.length - (intOf u).toNat)
      case atStart => exact ⟨0, by omega, rfl, HBx, HE1, HE0⟩
      case round =>
        clear HE1 HE0
        obtain ⟨w6, rfl⟩ : ∃ x, x = wr := ⟨wr, rfl⟩
        obtain ⟨i, hi, rfl, HB6, HE1, HE2⟩ := hrel
        by_cases hin : i < vl.length
        · obtain ⟨t, ht⟩ : ∃ t, vl[i]? = some t := ⟨vl[i]'hin, List.getElem?_eq_getElem _⟩
          obtain ⟨x1, y1, rfl, -, hc1⟩ := HE1.out.2 (by omega)
          obtain ⟨x2, y2, rfl, -, hc2⟩ := HE2.out.2 (by omega)
          have a1 := hc1 i t ht
          have a2 := hc2 i t ht
          have HSS : Aside0 (∀ W, Below w6.heap.size w6 W → (fun W : World => W.cell? ⟨x1, y1 + i, none⟩ = some (.string t) ∧ W.cell? ⟨x2, y2 + i, none⟩ = some (.string t)) W) := ⟨fun W h => ⟨pw_cell_below h a1, pw_cell_below h a2⟩⟩
          have g0 : (0 : Int) ≤ (i : Int) := by omega
          have g1 : (i : Int) < (vl.length : Int) := by omega
          clear hc1 hc2 a1 a2 ht
          go_upto_region 20 with (fail)
          have hS : (fun W : World => W.cell? ⟨x1, y1 + i, none⟩ = some (.string t) ∧ W.cell? ⟨x2, y2 + i, none⟩ = some (.string t)) w6.drew := HSS.out _ (below_drew (Below.refl w6.heap.size w6))
          refine wp_region_held (S := (fun W : World => W.cell? ⟨x1, y1 + i, none⟩ = some (.string t) ∧ W.cell? ⟨x2, y2 + i, none⟩ = some (.string t))) (by kernel_rfl) ?_
          change wpAnyH _ _ _ _ _ _ _ _ w6.drew
          first | refine tkU 0 hS ?_ | (refine tkV 0 (v := ?_) hS ?_ ?_; rotate_left 1; · (intro w0 hSw; (try dsimp only at hSw); go_split_ands; go_simp; try with_reducible rfl)) | fail
          try simp only [Act.put, pL]
          first | refine tkU 1 hS ?_ | (refine tkV 1 (v := ?_) hS ?_ ?_; rotate_left 1; · (intro w0 hSw; (try dsimp only at hSw); go_split_ands; go_simp; try with_reducible rfl)) | fail
          try simp only [Act.put, pL]
          first | refine tkU 2 hS ?_ | (refine tkV 2 (v := ?_) hS ?_ ?_; rotate_left 1; · (intro w0 hSw; (try dsimp only at hSw); go_split_ands; go_simp; try with_reducible rfl)) | fail
          try simp only [Act.put, pL]
          first | refine tkU 3 hS ?_ | (refine tkV 3 (v := ?_) hS ?_ ?_; rotate_left 1; · (intro w0 hSw; (try dsimp only at hSw); go_split_ands; go_simp; try with_reducible rfl)) | fail
          try simp only [Act.put, pL]
          first | refine tkU 4 hS ?_ | (refine tkV 4 (v := ?_) hS ?_ ?_; rotate_left 1; · (intro w0 hSw; (try dsimp only at hSw); go_split_ands; go_simp; try with_reducible rfl)) | fail
          try simp only [Act.put, pL]
          first | refine tkU 5 hS ?_ | (refine tkV 5 (v := ?_) hS ?_ ?_; rotate_left 1; · (intro w0 hSw; (try dsimp only at hSw); go_split_ands; go_simp; try with_reducible rfl)) | fail
          try simp only [Act.put, pL]
          first | refine tkU 6 hS ?_ | (refine tkV 6 (v := ?_) hS ?_ ?_; rotate_left 1; · (intro w0 hSw; (try dsimp only at hSw); go_split_ands; go_simp; try with_reducible rfl)) | fail
          try simp only [Act.put, pL]
          first | refine tkU 7 hS ?_ | (refine tkV 7 (v := ?_) hS ?_ ?_; rotate_left 1; · (intro w0 hSw; (try dsimp only at hSw); go_split_ands; go_simp; try with_reducible rfl)) | fail
          try simp only [Act.put, pL]
          first | refine tkU 8 hS ?_ | (refine tkV 8 (v := ?_) hS ?_ ?_; rotate_left 1; · (intro w0 hSw; (try dsimp only at hSw); go_split_ands; go_simp; try with_reducible rfl)) | fail
          try simp only [Act.put, pL]
          refine wpAnyH_done (by kernel_rfl) ?_ _
          have HBd := Aside0.mk (below_drew HB6.out)
          have HE1d := Aside0.mk (HE1.out.move (fun g _ hg => (below_drew (Below.refl w6.heap.size w6)).block g hg))
          have HE2d := Aside0.mk (HE2.out.move (fun g _ hg => (below_drew (Below.refl w6.heap.size w6)).block g hg))
          clear hS
          go_wp2_with fail
          go_roundw
          case rel => exact ⟨i + 1, by omega, by go_num, HBd, HE1d, HE2d⟩
          case measure => simp [intOf]; omega
        · have HQ6 := Aside0.mk (blk_below HQ.out HB6.out)
          have q0 := blk_cell HQ6.out 0
          have q1 := blk_cell HQ6.out 1
          have q2 := blk_cell HQ6.out 2
          have q3 := blk_cell HQ6.out 3
          have q4 := blk_cell HQ6.out 4
          have q5 := blk_cell HQ6.out 5
          simp at q0 q1 q2 q3 q4 q5
          go_wp2_with (first
            | (go_at_call 50; (with_reducible refine (CI.out _ HB6.out).mono ?_); rintro e w7 ⟨rfl, hb⟩; have HB7 := Aside0.mk (below_then HB6.out HB6.out.size hb); clear hb)
            | (go_at_call 28; (with_reducible refine (CK.out _ HB7.out).mono ?_); rintro e w8 ⟨rfl, hb⟩; have HB8 := Aside0.mk (below_then HB7.out HB7.out.size hb); clear hb))
          go_ret
          exact ⟨rfl, w_then HBr.out HB8.out⟩
set_option maxRecDepth 100000 in
set_option maxHeartbeats 8000000 in
theorem vars_long (l : List Int) (A : Option Addr) (c : Nat) (w : World) (h : 8 < l.length) : Calls Tryd.prog 22 #[.slice A l.length c] w fun e w' => e = .returned (.bool true) ∧ Below w.heap.size w w' := by
  have n1 : decide ((8 : Int) < (l.length : Int)) = true := by rw [decide_eq_true_eq]; omega
  go_enter Tryd.func22, Tryd.ntmps22
  go_wp2_with fail
  go_ret
  exact ⟨rfl, Below.refl _ _⟩
set_option maxRecDepth 100000 in
set_option maxHeartbeats 8000000 in
theorem vars_odd (l : List Int) (A : Option Addr) (c : Nat) (w : World) (h : l.length ≤ 8) (h2 : l.length % 2 = 1) : Calls Tryd.prog 22 #[.slice A l.length c] w fun e w' => e = .returned (.bool true) ∧ Below w.heap.size w w' := by
  have n1 : decide ((8 : Int) < (l.length : Int)) = false := by rw [decide_eq_false_iff_not]; omega
  have n2 : (bits .and .i64 (l.length : Int) 1 == 1) = true := by
    rcases (show l.length = 1 ∨ l.length = 3 ∨ l.length = 5 ∨ l.length = 7 by omega) with h | h | h | h <;> rw [h] <;> rfl
  clear h h2
  go_enter Tryd.func22, Tryd.ntmps22
  go_wp2_with fail
  go_ret
  exact ⟨rfl, Below.refl _ _⟩
set_option maxRecDepth 100000 in
set_option maxHeartbeats 8000000 in
theorem vars_none (A : Option Addr) (c : Nat) (w : World) : Calls Tryd.prog 22 #[.slice A 0 c] w fun e w' => e = .returned (.bool true) ∧ Below w.heap.size w w' := by
  have n2 : (bits .and .i64 0 1 == 1) = false := rfl
  go_enter Tryd.func22, Tryd.ntmps22
  go_wp2_with fail
  go_ret
  exact ⟨rfl, Below.refl _ _⟩
theorem vars_law (A : Option Addr) (c : Nat) (l : List Int) (w : World) (hr : Kd.C (Kd.int .i64) w A l.length l) (hc : l.length ≤ c) (_hm : l.length ≤ maxLen) (_hy : l.length * 8 ≤ 140737488351232) (_hw : ∀ x ∈ l, (Lit.int .i64 x).wf = true) (hT : Tabs w) :
    Calls Tryd.prog 22 #[.slice A l.length c] w fun e w' => e = .returned (.bool true) ∧ Below w.heap.size w w' := by
  by_cases h8 : 8 < l.length
  · exact vars_long l A c w h8
  · by_cases h2 : l.length % 2 = 1
    · exact vars_odd l A c w (by omega) h2
    · by_cases h0 : 0 < l.length
      · exact vars_go l A c w hr hc (by omega) (by omega) h0 hT
      · rw [show l.length = 0 by omega]
        exact vars_none A c w
end Go.Proofs.YtbaegfjoionojaaDoor.Qy
