/- The walk of query.areVars; what a query must be. -/
import Derived.Test.YtbaegfjoionojaaDoorQvF
set_option linter.unusedSimpArgs false
set_option linter.unusedVariables false
namespace Go.Proofs.YtbaegfjoionojaaDoor.Qy
open Go Go.RowKit Go.Proofs.YtbaegfjoionojaaDoor.Tm Go.Proofs.YtbaegfjoionojaaDoorW.PrintWords

/-- What is asked for are variables, none twice. -/
def VarOk (all vs : List ByteArray) : Prop := ∀ (i : Nat) v, vs[i]? = some v → Lib.containsS all v = true ∧ Lib.containsS (vs.take i) v = false
theorem TsAt.take {w : World} {ok : Nat → Prop} {A : Option Addr} {ts : List ByteArray} (h : TsAt w ok A ts) (i : Nat) : TsAt w ok A (ts.take i) := by
  refine ⟨by have := h.1; rw [List.length_take]; omega, fun h0 => ?_⟩
  rw [List.length_take] at h0
  obtain ⟨b, o, e, hok, hc⟩ := h.2 (by omega)
  refine ⟨b, o, e, hok, fun j t ht => hc j t ?_⟩
  rw [List.getElem?_take] at ht
  split at ht
  · exact ht
  · cases ht
theorem boxQ (w : World) (a : Bool) (A : Option Addr) (n c : Nat) (B : Option Addr) (m c' : Nat) (D : Option Addr) (l d : Nat) (x y : Int) : ∃ wb, wb = w.alloc (.cells #[.bool a, .slice A n c, .slice B m c', .slice D l d, .int .i64 x, .int .i64 y] 68) ∧ Aside0 (Below w.heap.size w wb) ∧ Aside0 (wb.heap[w.heap.size]? = some (.cells #[.bool a, .slice A n c, .slice B m c', .slice D l d, .int .i64 x, .int .i64 y] 68 (0, 0))) := ⟨_, rfl, ⟨below_alloc (Below.refl _ _) _⟩, ⟨heap_alloc_new _ _⟩⟩
theorem ret_vb {a b : Bool} (h : a = b) : Ending.returned (.bool a) = .returned (.bool b) := by rw [h]
def AreP (w : World) (P : Prop) (e : Ending) (w' : World) : Prop := ∃ b : Bool, e = .returned (.bool b) ∧ (b = true ↔ P) ∧ Below w.heap.size w w'
set_option maxRecDepth 100000 in
set_option maxHeartbeats 8000000 in
theorem areVars_any (ask : Bool) (vs : List ByteArray) (A : Option Addr) (c : Nat) (B : Option Addr) (m c' : Nat) (D : Option Addr) (l d : Nat) (x y : Int) (all : List ByteArray) (E : Option Addr) (f : Nat) (w : World) (hc : vs.length ≤ c) (hts : TsAt w anyB A vs) (hall : TsAt w anyB E all) :
    Calls Tryd.prog 81 #[.agg #[.bool ask, .slice A vs.length c, .slice B m c', .slice D l d, .int .i64 x, .int .i64 y], .slice E all.length f] w (AreP w (VarOk all vs ∧ (ask = true → vs.length = 0))) := by
  obtain ⟨wb, hwb, HB, HN⟩ := boxQ w ask A vs.length c B m c' D l d x y
  have HHW := Aside0.mk hwb.symm
  have HTS : Aside0 (TsAt wb anyB A vs) := ⟨hts.move (fun g _ hg => HB.out.block g hg)⟩
  have CA : Aside0 (∀ v, Calls Tryd.prog 78 #[.slice E all.length f, .string v] wb fun e w' => e = .returned (.bool (Lib.containsS all v)) ∧ w' = wb) := ⟨fun v => contains_ts (hall.move (fun g _ hg => HB.out.block g hg)) f v⟩
  have hn : vs.length ≤ 9223372036854775807 := hts.1
  obtain ⟨P, hP⟩ : ∃ P, (VarOk all vs ∧ (ask = true → vs.length = 0)) = P := ⟨_, rfl⟩
  rw [hP]
  have HPP := Aside0.mk hP
  clear hwb hts hall hP
  go_enter Tryd.func81, Tryd.ntmps81
  go_upto_region 1 with (fail)
  rw [HHW.out]
  have q0 := blk_cell HN.out 0
  have q1 := blk_cell HN.out 1
  simp at q0 q1
  go_wp2_with fail
  go_loopw [10] (fun u wr => ∃ i : Nat, i ≤ vs.length ∧ u = .int .i64 i ∧ Aside0 (∀ (j : Nat) v, j < i → vs[j]? = some v → Lib.containsS all v = true ∧ Lib.containsS (vs.take j) v = false) ∧ Aside0 (wr = wb)) (fun u _ => vs.length - (intOf u).toNat)
  case atStart => exact ⟨0, by omega, rfl, ⟨fun j v h => by omega⟩, ⟨by first | trivial | rfl⟩⟩
  case round =>
    obtain ⟨i, hi, rfl, HJ, hw⟩ := hrel
    obtain rfl := hw.out.symm
    by_cases hin : i < vs.length
    · obtain ⟨v, hv⟩ : ∃ v, vs[i]? = some v := ⟨vs[i]'hin, List.getElem?_eq_getElem _⟩
      obtain ⟨tb, tf, hA, -, htc⟩ := HTS.out.2 (by omega)
      have hcell := htc i v hv
      subst hA
      have g0 : (0 : Int) ≤ (i : Int) := by omega
      have g1 : (i : Int) < (vs.length : Int) := by omega
      have g3 : (i : Int) ≤ (c : Int) := by omega
      have CT : Aside0 (Calls Tryd.prog 78 #[.slice (some ⟨tb, tf, none⟩) i c, .string v] wb fun e w' => e = .returned (.bool (Lib.containsS (vs.take i) v)) ∧ w' = wb) := ⟨by
        have := contains_ts (HTS.out.take i) c v
        rwa [show (vs.take i).length = i by rw [List.length_take]; omega] at this⟩
      have CV := Aside0.mk (CA.out v)
      have HV := Aside0.mk hv
      obtain ⟨b1, hb1⟩ : ∃ b, Lib.containsS all v = b := ⟨_, rfl⟩
      obtain ⟨b2, hb2⟩ : ∃ b, Lib.containsS (vs.take i) v = b := ⟨_, rfl⟩
      have H1 := Aside0.mk hb1
      have H2 := Aside0.mk hb2
      rw [hb1] at CV
      rw [hb2] at CT
      clear htc hv hb1 hb2
      cases b1 with
      | false =>
        have HF : Aside0 (¬ VarOk all vs) := ⟨fun h => by
          have := (h i v HV.out).1
          rw [H1.out] at this; cases this⟩
        go_wp2_with (go_at_call 78; (with_reducible refine CV.out.mono ?_); rintro e w1 ⟨rfl, rfl⟩)
        go_ret
        exact ⟨false, rfl, ⟨fun h => (by cases h), fun h => (by rw [← HPP.out] at h; exact absurd h.1 HF.out)⟩, HB.out⟩
      | true =>
        cases b2 with
        | true =>
          have HF : Aside0 (¬ VarOk all vs) := ⟨fun h => by
            have := (h i v HV.out).2
            rw [H2.out] at this; cases this⟩
          go_wp2_with (first
            | (go_at_call 78; (with_reducible refine CV.out.mono ?_); rintro e w1 ⟨rfl, rfl⟩)
            | (go_at_call 78; (with_reducible refine CT.out.mono ?_); rintro e w1 ⟨rfl, rfl⟩))
          go_ret
          exact ⟨false, rfl, ⟨fun h => (by cases h), fun h => (by rw [← HPP.out] at h; exact absurd h.1 HF.out)⟩, HB.out⟩
        | false =>
          have HJ2 : Aside0 (∀ (j : Nat) v, j < i + 1 → vs[j]? = some v → Lib.containsS all v = true ∧ Lib.containsS (vs.take j) v = false) := ⟨fun j u hj hu => by
            by_cases e : j = i
            · subst e
              obtain rfl := Option.some.inj (HV.out.symm.trans hu)
              exact ⟨H1.out, H2.out⟩
            · exact HJ.out j u (by omega) hu⟩
          go_wp2_with (first
            | (go_at_call 78; (with_reducible refine CV.out.mono ?_); rintro e w1 ⟨rfl, rfl⟩)
            | (go_at_call 78; (with_reducible refine CT.out.mono ?_); rintro e w1 ⟨rfl, rfl⟩))
          go_roundw
          case rel => exact ⟨i + 1, by omega, by go_num, HJ2, ⟨by first | trivial | rfl⟩⟩
          case measure => simp [intOf]; omega
    · have HOK : Aside0 (VarOk all vs) := ⟨fun j v hv => HJ.out j v (by have := (List.getElem?_eq_some_iff.1 hv).1; omega) hv⟩
      cases ask with
      | false =>
        go_wp2_with fail
        go_ret
        exact ⟨true, rfl, ⟨fun _ => (by rw [← HPP.out]; exact ⟨HOK.out, fun h => by cases h⟩), fun _ => rfl⟩, HB.out⟩
      | true =>
        by_cases h0 : vs.length = 0
        · have n0 : ((vs.length : Int) == 0) = true := by rw [beq_iff_eq]; omega
          go_wp2_with fail
          go_ret
          exact ⟨true, rfl, ⟨fun _ => (by rw [← HPP.out]; exact ⟨HOK.out, fun _ => h0⟩), fun _ => rfl⟩, HB.out⟩
        · have n0 : ((vs.length : Int) == 0) = false := by rw [beq_eq_false_iff_ne]; omega
          go_wp2_with fail
          go_ret
          exact ⟨false, rfl, ⟨fun h => (by cases h), fun h => (by rw [← HPP.out] at h; exact absurd (h.2 (by simp)) h0)⟩, HB.out⟩
end Go.Proofs.YtbaegfjoionojaaDoor.Qy
