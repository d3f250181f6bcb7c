/- The walk of triviumref7.Distinct. -/
import Derived.Test.YtdijaobhijmknaaRefw
import Derived.Test.YtdijaobhijmknaaWaveP
set_option linter.unusedSimpArgs false
set_option linter.unusedVariables false
namespace Go.Proofs.Ytdijaobhijmknaa.Rw
open Go.RowKit Go.Proofs.YtdijaobhijmknaaW.PrintWords Go.Proofs.YtdijaobhijmknaaW.PrintLast Go.Proofs.YtdijaobhijmknaaW.PrintMore Go.Proofs.Ytdijaobhijmknaa.Bs Go.Proofs.Ytdijaobhijmknaa.PM Go.Proofs.Ytdijaobhijmknaa.Pk Go.Proofs.Ytdijaobhijmknaa.WM Go.Proofs.Ytdijaobhijmknaa.SM Go.Proofs.Ytdijaobhijmknaa.Wv
attribute [local go_sem] max2_int min2_int max_two min_two

/-- What Distinct leaves: a row in new memory of the numbers that there are. -/
def DistP (w : World) (xs : List Int) (e : Ending) (w' : World) : Prop := ∃ u d, e = .returned u ∧ IsDistinct xs d ∧ d.length ≤ 1048576 ∧ (Kd.int .i64).R 3 w' w.heap.size (fun _ => True) u d ∧ Below w.heap.size w w'
set_option maxHeartbeats 2000000 in
theorem refDistinct {n : Nat} {l : List Int} (hn : l.length = n) (A : Option Addr) (c : Nat) (a b : Int) (w : World) (hr : Kd.C (Kd.int .i64) w A n l) (hl : n ≤ c) (hlen : n ≤ 1000) (hx : ∀ x ∈ cutI l a b, (0 : Int) ≤ x ∧ x ≤ 1048575) :
    Calls Try.prog 59 #[.slice A n c, .int .i64 a, .int .i64 b] w (DistP w (cutI l a b)) := by
  have C1 := Aside0.mk (fun w1 lo (hb : Below w.heap.size w w1) => refNext hn A c a b lo w1 (Kd.C_below hr hb) hl hlen)
  have HX := Aside0.mk hx
  have HB := Aside0.mk (Below.refl w.heap.size w)
  have HF := Aside0.mk (rises_first hx)
  obtain ⟨xs, hxs⟩ : ∃ xs, xs = cutI l a b := ⟨_, rfl⟩
  rw [← hxs] at C1 HX HF ⊢
  clear hr hx hxs
  go_enter Try.func59, Try.ntmps59
  go_wp2_with (first | (go_at_call 57; (with_reducible refine (C1.out _ _ HB.out).mono ?_); rintro e w1 ⟨rfl, rfl⟩))
  go_loopw [7, 8] (fun v x wr => ∃ (ds : List Int) (k : Int), x = .int .i64 k ∧ -1 ≤ k ∧ k ≤ 1048575 ∧ Aside0 (Rises xs ds k) ∧ Aside0 (Kd.R (Kd.int .i64) 3 wr w.heap.size (fun _ => True) v ds) ∧ Aside0 (Below w.heap.size w wr)) (fun _ x _ => if intOf x < 0 then 0 else (1048576 - intOf x).toNat)
  case atStart => exact ⟨[], _, rfl, (rises_range HX.out HF.out).1, (rises_range HX.out HF.out).2, HF, ⟨Kd.R_nil _ _ _ _ _⟩, HB⟩
  case round =>
    obtain ⟨ds, k, rfl, hk0, hk1, HR, HO, HW⟩ := hrel
    clear HB HF
    by_cases hlt : 0 ≤ k
    · have HS := Aside0.mk (rises_step HX.out HR.out hlt)
      have hdl : ds.length ≤ 1048576 := HR.out.2.2.2.2.2
      obtain ⟨k2, hk2⟩ : ∃ k2, k2 = nextI xs (k + 1) := ⟨_, rfl⟩
      have hk3 := rises_range HX.out HS.out.1
      rw [← hk2] at HS hk3
      have HK2 := Aside0.mk hk2.symm
      clear hk2
      go_wp2_with (first
        | (go_at_call 57; (with_reducible refine (C1.out _ _ HB1.out).mono ?_); rintro e w1 ⟨rfl, rfl⟩)
        | (at_builtin; refine Kd.R_append (Kd.int .i64) (w0 := w) w.heap.size rfl (.tmp 21) (.tmp 23) 26 3 (.int .i64 0) 8 rfl Try.underlying26 info_int rfl (by decide) (by omega) _ ds k [.int .i64 k] (fun _ => True) (fun _ => False) rfl rfl ?aP (fun _ hk => hk.elim) ?aF ?aO ?aB ?aS ?aL ?_; (case aP => exact rfl); (case aB => exact HW.out); (case aF => exact (fun _ _ => trivial)); (case aO => exact HO.out); (case aS => exact HW.out.size); (case aL => omega); intro v150 w19 ho hb hg hat; have HO1 := Aside0.mk ho; have HB1 := Aside0.mk hb; clear ho hb hg hat))
      go_roundw
      case rel =>
        rw [HK2.out]
        exact ⟨ds ++ [k], k2, rfl, hk3.1, hk3.2, ⟨HS.out.1⟩, HO1, HB1⟩
      case measure =>
        rw [HK2.out]
        have := HS.out.2
        show (if k2 < 0 then 0 else (1048576 - k2).toNat) < if k < 0 then 0 else (1048576 - k).toNat
        rw [if_neg (show ¬ k < 0 by omega)]
        by_cases c : k2 < 0
        · rw [if_pos c]; omega
        · rw [if_neg c]; omega
    · go_wp2
      go_ret
      exact ⟨_, ds, rfl, rises_end HR.out (by omega), HR.out.2.2.2.2.2, HO.out, HW.out⟩
end Go.Proofs.Ytdijaobhijmknaa.Rw
