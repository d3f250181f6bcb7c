/- The laws' digits: a number in digits, as a plain function, and its walk. -/
import Derived.Test.YtmenjcjpihpjjaaKnown
import Derived.Deep.RegionWith
import Derived.Laws.IdiomStrings
set_option linter.unusedSimpArgs false
set_option linter.unusedVariables false
namespace Go.Proofs.Ytmenjcjpihpjjaa.Fb
open Go Go.RowKit Go.Proofs.YtmenjcjpihpjjaaW.PrintWords Go.Proofs.YtmenjcjpihpjjaaW.PrintLast Go.Proofs.YtmenjcjpihpjjaaW.PrintMore
attribute [local go_sem] max2_int min2_int max_two min_two

/-- A number in digits. -/
def decL (n : Nat) : List UInt8 := if h : n < 10 then [UInt8.ofNat (48 + n)] else decL (n / 10) ++ [UInt8.ofNat (48 + n % 10)]
termination_by n
decreasing_by omega
theorem decL_one {n : Nat} (h : n < 10) : decL n = [UInt8.ofNat (48 + n)] := by rw [decL]; simp [h]
theorem decL_more {n : Nat} (h : ¬ n < 10) : decL n = decL (n / 10) ++ [UInt8.ofNat (48 + n % 10)] := by rw [decL]; simp [h]
theorem dig_nat {n : Nat} (h : n < 10) : (UInt8.ofNat (48 + n)).toNat = 48 + n := by
  rw [UInt8.toNat_ofNat']; omega
theorem decL_dig (n : Nat) : AllDig (decL n) ∧ wholeI (decL n) = n ∧ decL n ≠ [] := by
  induction n using Nat.strongRecOn with
  | ind n ih =>
    by_cases h : n < 10
    · rw [decL_one h]
      refine ⟨?_, ?_, by simp⟩
      · intro c hc
        rw [List.mem_singleton] at hc
        subst hc
        unfold isDig
        rw [dig_nat h]
        simp; omega
      · unfold wholeI
        simp only [List.foldl]
        rw [dig_nat h]; omega
    · obtain ⟨h1, h2, h3⟩ := ih (n / 10) (by omega)
      rw [decL_more h]
      have h4 : n % 10 < 10 := by omega
      refine ⟨?_, ?_, by simp⟩
      · intro c hc
        rcases List.mem_append.1 hc with hc | hc
        · exact h1 c hc
        · rw [List.mem_singleton] at hc
          subst hc
          unfold isDig
          rw [dig_nat h4]
          simp; omega
      · rw [wholeI_snoc, h2, dig_nat h4]; omega
theorem decL_len (k : Nat) : ∀ n, n < 10 ^ (k + 1) → (decL n).length ≤ k + 1 := by
  induction k with
  | zero => intro n h; rw [decL_one (by omega)]; simp
  | succ k ih =>
    intro n h
    by_cases h1 : n < 10
    · rw [decL_one h1]; simp
    · rw [decL_more h1, List.length_append, List.length_singleton]
      have := ih (n / 10) (by rw [Nat.pow_succ] at h; omega)
      omega
def DigP (w : World) (l : List UInt8) (e : Ending) (w' : World) : Prop := e = .returned (.string ⟨l.toArray⟩) ∧ Below w.heap.size w w'
theorem conv_one {P : Program} {ts tb te : TypeId} (hs : P.underlying tb = some (.slice te)) (he : P.underlying te = some (.int .u8)) (hd : P.underlying ts = some .string) (d : Nat) (h : d < 10) (W : World) (b : Nat)
    (hc : W.cell? ⟨b, 0, none⟩ = some (.int .u8 (48 + (d : Int)))) :
    (convert tb ts (.slice (some ⟨b, 0, none⟩) 1 1)).run P W = .ok (.string ⟨#[UInt8.ofNat (48 + d)]⟩) W := by
  refine run_convert_bytes_back W tb ts te ⟨b, 0, none⟩ 1 [UInt8.ofNat (48 + d)] hs he hd ?_
  intro j hj
  have hj0 : j = 0 := by simpa using hj
  subst hj0
  show W.cell? ⟨b, 0, none⟩ = some (.int .u8 ((UInt8.ofNat (48 + d)).toNat : Int))
  rw [dig_nat h, hc]
  simp
theorem below_a {w w1 : World} {o : Obj} (h : Below w.drew.heap.size w.drew w1) : Below w.heap.size w (w1.alloc o) :=
  ((below_drewN (Below.refl w.heap.size w) 1).trans h).alloc h.size o
theorem below_b {w w1 : World} {o : Obj} (h : Below (w.drew.alloc o).heap.size (w.drew.alloc o) w1) : Below w.heap.size w w1 :=
  (((below_drewN (Below.refl w.heap.size w) 1).alloc (Nat.le_refl _) o)).trans (h.mono (by simp))
theorem dig_ret {qb : ByteArray} {l : List UInt8} {d : Nat} (h : qb = ⟨l.toArray⟩) : (qb ++ (⟨#[48 + UInt8.ofNat d]⟩ : ByteArray)) = ⟨(l ++ [UInt8.ofNat (48 + d)]).toArray⟩ := by
  apply of_list
  rw [ByteArray.data_append, Array.toList_append, h]
  simp
theorem ret_string {a b : ByteArray} (h : a = b) : Ending.returned (.string a) = .returned (.string b) := by rw [h]
set_option maxHeartbeats 1000000 in
theorem digs_step (n q d : Nat) (hn : n < 1000000000000) (h : ¬ n < 10) (hq : q = n / 10) (hd : d = n % 10) (w : World) (ih : ∀ w, Calls Try.prog 15 #[.int .i64 q] w (DigP w (decL q))) :
    Calls Try.prog 15 #[.int .i64 n] w (DigP w (decL n)) := by
  have h1 : (10 : Int) ≤ n := by omega
  have HL : Aside0 (decL n = decL q ++ [UInt8.ofNat (48 + d)]) := ⟨by rw [decL_more h, hq, hd]⟩
  obtain ⟨qb, hqb⟩ : ∃ qb : ByteArray, qb = ⟨(decL q).toArray⟩ := ⟨_, rfl⟩
  have hqs : qb.size ≤ 12 := by
    rw [← toList_size, hqb]
    exact decL_len 11 q (by omega)
  have IH : Aside0 (∀ w, Calls Try.prog 15 #[.int .i64 q] w fun e w' => e = .returned (.string qb) ∧ Below w.heap.size w w') := ⟨by rw [hqb]; exact ih⟩
  have HQ := Aside0.mk hqb
  have hd10 : d < 10 := by omega
  have kc := fun (W : World) b hc => conv_one (P := Try.prog) (ts := 9) (tb := 43) Try.underlying43 Try.underlying5 Try.underlying9 d hd10 W b hc
  have e1 : IntKind.i64.wrap ((n : Int) / 10) = (q : Int) := by rw [IntWalk.i64_in _ (by omega)]; omega
  have e2 : (n : Int).tmod 10 = (d : Int) := by rw [Int.tmod_eq_emod_of_nonneg (by omega)]; omega
  have e3 : IntKind.i64.wrap (48 + (d : Int)) = 48 + (d : Int) := IntWalk.i64_in _ (by omega)
  have e4 : IntKind.u8.wrap (48 + (d : Int)) = 48 + (d : Int) := by unfold IntKind.wrap; simp [IntKind.signed, IntKind.bits]; omega
  have h2 : ((n : Int) < 10) = False := by simp; omega
  clear ih h hq hd hqb
  go_enter Try.func15, Try.ntmps15
  go_upto_region 3 with (fail)
  go_region_with (first
    | (go_at_call 15; (with_reducible refine (IH.out _).mono ?_); rintro e w1 ⟨rfl, hb⟩; have HB := Aside0.mk hb; have hcell := fun (hh : w.heap.size < _) => hb.cell (p := ⟨w.heap.size, 0, none⟩) hh; clear hb))
  all_goals
    go_wp2_with fail
    go_ret
    refine ⟨ret_string ?_, ?_⟩
    · rw [HL.out]; exact dig_ret HQ.out
    · first | exact below_a HB.out | exact below_b HB.out
theorem digs_one (n : Nat) (h : n < 10) (w : World) : Calls Try.prog 15 #[.int .i64 n] w (DigP w (decL n)) := by
  have kc := fun (W : World) b hc => conv_one (P := Try.prog) (ts := 9) (tb := 43) Try.underlying43 Try.underlying5 Try.underlying9 n h W b hc
  have e3 : IntKind.i64.wrap (48 + (n : Int)) = 48 + (n : Int) := IntWalk.i64_in _ (by omega)
  have e4 : IntKind.u8.wrap (48 + (n : Int)) = 48 + (n : Int) := by unfold IntKind.wrap; simp [IntKind.signed, IntKind.bits]; omega
  have HL := Aside0.mk (decL_one h)
  have h1 : (n : Int) < 10 := by omega
  go_enter Try.func15, Try.ntmps15
  go_wp2_with fail
  go_ret
  refine ⟨ret_string ?_, (Below.refl _ _).alloc (Nat.le_refl _) _⟩
  rw [HL.out]
  simp
theorem digs_any (n : Nat) (hn : n < 1000000000000) (w : World) : Calls Try.prog 15 #[.int .i64 n] w (DigP w (decL n)) := by
  induction n using Nat.strongRecOn generalizing w with
  | ind n ih =>
    by_cases h : n < 10
    · exact digs_one n h w
    · exact digs_step n (n / 10) (n % 10) hn h rfl rfl w (fun w => ih (n / 10) (by omega) (by omega) w)
end Go.Proofs.Ytmenjcjpihpjjaa.Fb
