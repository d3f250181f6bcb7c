/- The walks of Parse: digits as a number. -/
import Derived.Test.YtmenjcjpihpjjaaDoorParse
set_option linter.unusedSimpArgs false
set_option linter.unusedVariables false
namespace Go.Proofs.YtmenjcjpihpjjaaDoor.Fb
open Go Go.RowKit Go.Proofs.YtmenjcjpihpjjaaDoorW.PrintWords Go.Proofs.YtmenjcjpihpjjaaDoorW.PrintLast Go.Proofs.YtmenjcjpihpjjaaDoorW.PrintMore
attribute [local go_sem] max2_int min2_int max_two min_two

/-- Digits as a number. -/
def wholeI (l : List UInt8) : Int := l.foldl (fun n c => 10 * n + ((c.toNat : Int) - 48)) 0
def AllDig (l : List UInt8) : Prop := ∀ c ∈ l, isDig c = true
theorem isDig_range {c : UInt8} (h : isDig c = true) : 48 ≤ (c.toNat : Int) ∧ (c.toNat : Int) ≤ 57 := by
  unfold isDig at h
  simp only [Bool.and_eq_true, decide_eq_true_eq] at h
  omega
theorem wholeI_snoc (l : List UInt8) (c : UInt8) : wholeI (l ++ [c]) = 10 * wholeI l + ((c.toNat : Int) - 48) := by
  unfold wholeI; rw [List.foldl_append]; rfl
theorem take_at (s : ByteArray) (n : Nat) (h : n < s.size) : s.data.toList.take (n + 1) = s.data.toList.take n ++ [s[n]] := by
  rw [List.take_succ_eq_append_getElem (by simpa using h)]
  rfl
theorem wholeI_bound (l : List UInt8) (h : AllDig l) : 0 ≤ wholeI l ∧ wholeI l < 10 ^ l.length := by
  have key : ∀ (n : Nat) (l : List UInt8), l.length = n → AllDig l → 0 ≤ wholeI l ∧ wholeI l < 10 ^ n := by
    intro n
    induction n with
    | zero => intro l hl _; rw [List.eq_nil_of_length_eq_zero hl]; simp [wholeI]
    | succ n ih =>
      intro l hl hd
      rcases List.eq_nil_or_concat l with rfl | ⟨l', c, rfl⟩
      · simp at hl
      · rw [List.concat_eq_append] at *
        rw [List.length_append, List.length_singleton] at hl
        obtain ⟨h1, h2⟩ := ih l' (by omega) (fun c hc => hd c (List.mem_append_left _ hc))
        have h3 := isDig_range (hd c (by simp))
        rw [wholeI_snoc, Int.pow_succ]
        generalize (10 : Int) ^ n = P at *
        omega
  exact key _ l rfl h
theorem wholeI_small (l : List UInt8) (h : AllDig l) (hl : l.length ≤ 15) : 0 ≤ wholeI l ∧ wholeI l < 1000000000000000 := by
  obtain ⟨h1, h2⟩ := wholeI_bound l h
  have h3 : (10 : Int) ^ l.length ≤ 10 ^ 15 := by
    have := Nat.pow_le_pow_right (n := 10) (by decide) hl
    exact_mod_cast this
  omega
theorem AllDig.take {l : List UInt8} (h : AllDig l) (n : Nat) : AllDig (l.take n) := fun c hc => h c (List.mem_of_mem_take hc)
theorem mem_at (s : ByteArray) (n : Nat) (h : n < s.size) : s[n] ∈ s.data.toList :=
  List.mem_of_mem_drop (i := n) (by rw [drop_at s n h]; exact List.mem_cons_self)
theorem cell_at (w : World) (e : TypeId) (s : ByteArray) (n : Nat) (h : n < s.size) : (Lib.bytesWorld w e s).cell? ⟨w.heap.size, n, none⟩ = some (.int .u8 (s[n].toNat : Int)) := by
  rw [Lib.bytesWorld_cell w e s n h]
  have h' : n < s.data.toList.length := by simpa using h
  rw [List.getD_eq_getElem?_getD, List.getElem?_eq_getElem h']
  rfl
theorem refWhole_any (s : ByteArray) (hs : s.size ≤ 15) (hd : AllDig s.data.toList) (w : World) :
    Calls Tryd.prog 38 #[.string s] w fun e w' => e = .returned (.int .i64 (wholeI s.data.toList)) ∧ w = w' := by
  have HD := Aside0.mk hd
  clear hd
  go_enter Tryd.func38, Tryd.ntmps38
  go_wp2
  go_loop [3, 4] (fun x y => ∃ (n : Nat) (v : Int), x = .int .i64 v ∧ y = .int .i64 n ∧ n ≤ s.size ∧ Aside0 (v = wholeI (s.data.toList.take n))) (fun _ y => s.size - (intOf y).toNat)
  case atStart => exact ⟨0, 0, rfl, rfl, by omega, ⟨by simp [wholeI]⟩⟩
  case round =>
    obtain ⟨n, v, rfl, rfl, hn, HE⟩ := hrel
    have hv := wholeI_small _ (HD.out.take n) (by rw [List.length_take]; omega)
    rw [← HE.out] at hv
    by_cases hlt : n < s.size
    · have HS := Aside0.mk (take_at s n hlt)
      have hc := isDig_range (HD.out s[n] (mem_at s n hlt))
      go_wp2
      go_round
      case rel => exact ⟨n + 1, _, rfl, by go_num, by omega, ⟨by rw [HS.out, wholeI_snoc, ← HE.out]; omega⟩⟩
      case measure => simp [intOf]; omega
    · have hin : n = s.size := by omega
      subst hin
      go_wp2
      go_ret
      refine ⟨?_, rfl⟩
      have := HE.out
      rw [List.take_of_length_le (by simp)] at this
      rw [← this]
      rfl
theorem whole_any (s : ByteArray) (hs : s.size ≤ 15) (hd : AllDig s.data.toList) (w : World) :
    Calls Tryd.prog 83 #[.string s] w fun e w' => e = .returned (.int .i64 (wholeI s.data.toList)) ∧ Below w.heap.size w w' := by
  have HD := Aside0.mk hd
  have kb := fun W => print_bytes (P := Tryd.prog) 9 22 5 Tryd.underlying9 Tryd.underlying22 Tryd.underlying5 s W
  have HR := Aside0.mk (bytes_reads w 5 s (by omega))
  have HB := Aside0.mk (bytes_below (Below.refl w.heap.size w) (Nat.le_refl _) 5 s)
  clear hd
  go_enter Tryd.func83, Tryd.ntmps83
  go_wp2
  go_loop [3, 9] (fun x y => ∃ (n : Nat) (v : Int), x = .int .i64 v ∧ y = .int .i64 n ∧ n ≤ s.size ∧ Aside0 (v = wholeI (s.data.toList.take n))) (fun _ y => s.size - (intOf y).toNat)
  case atStart => exact ⟨0, 0, rfl, rfl, by omega, ⟨by simp [wholeI]⟩⟩
  case round =>
    obtain ⟨n, v, rfl, rfl, hn, HE⟩ := hrel
    have hv := wholeI_small _ (HD.out.take n) (by rw [List.length_take]; omega)
    rw [← HE.out] at hv
    by_cases hlt : n < s.size
    · have HS := Aside0.mk (take_at s n hlt)
      have hc := isDig_range (HD.out s[n] (mem_at s n hlt))
      have hcell := cell_at w 5 s n hlt
      go_wp2
      go_round
      case rel => exact ⟨n + 1, _, rfl, by go_num, by omega, ⟨by rw [HS.out, wholeI_snoc, ← HE.out]⟩⟩
      case measure => simp [intOf]; omega
    · have hin : n = s.size := by omega
      subst hin
      go_wp2
      go_ret
      refine ⟨?_, HB.out⟩
      have := HE.out
      rw [List.take_of_length_le (by simp)] at this
      rw [← this]
      rfl
end Go.Proofs.YtmenjcjpihpjjaaDoor.Fb
